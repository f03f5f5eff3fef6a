/- A machine's tables: windows, and all: contracts. -/
import Derived.Test.YtdjpcfaidgofoaaGreatConfC
set_option linter.all false
namespace Go.Proofs
open Go.Eng
open Classical
set_option linter.unusedVariables false
set_option maxRecDepth 100000
set_option maxHeartbeats 2000000
theorem Tryz.confWn1 (C : Cfg) (i b : Nat) (A : HP) (L : List HP) (hB : CfB C) (hi : i < C.ws.length) (hr : Rd slE L C.wa C.ws) :
    Con Tryz.prog 102 [.int .i64 i, .pointer (some ⟨b, 0, none⟩)] (A :: ptc b 28 (cfC C) :: L) (Is (.bool (decide (b4 C i))) (A :: ptc b 28 (cfC C) :: L)) := by
  have hc := fun L => Tryz.confWindow C (cW C i).1 (cW C i).2.1 (cW C i).2.2 L
  refine con_of Tryz.tysOk Tryz.func102 rfl rfl ?_
  conv => whnf
  repeat' (first
    | ((with_reducible refine Ix.ad ?_ ?_ ?_); (focus (exact Rd.ad (by assumption))); (focus (omega)); conv => whnf)
    | (refine Ld.at 1 rfl rfl ?_; conv => whnf)
    | (first | ((with_reducible apply LdN.rdk); (focus ((repeat (first | assumption | apply Rd.cons)); done)); (focus rfl); (focus rfl); (focus (omega)); conv => whnf) | (refine LdN.at 1 rfl (by first | exact Nat.le_of_ble_eq_true rfl | (simp; done)) ?_; conv => whnf))
    | ((with_reducible refine Dr.by (id := 1) Tryz.tysOk rfl [(1, 0), (3, 0), (0, 1), (2, 1), (4, 0), (5, 1), (6, 1), (7, 0), (8, 0)] ?_ ?_); (focus kernel_rfl); conv => whnf)
    | ((with_reducible refine CD.is (fun M => hc _) ?_); conv => whnf))
  all_goals exact Is.ent (by (exact Ent.rfl)) (Is.bool (not_dec Iff.rfl))
theorem Tryz.confWn21 (x y : Slt) (b : Nat) (L : List HP) :
    Con Tryz.prog 106 [slV y.1 y.2.1 y.2.2, .pointer (some ⟨b, 0, none⟩)] (ptc b 43 [n64 x.1, n64 x.2.1, n64 x.2.2] :: L) (Is (.bool (decide (meetW x y ∨ x.1 = y.1))) (ptc b 43 [n64 x.1, n64 x.2.1, n64 x.2.2] :: L)) := by
  by_cases hm : meetW x y
  · have h := fun L => Tryz.spanMeetT _ _ _ _ L hm
    refine con_of Tryz.tysOk Tryz.func106 rfl rfl ?_
    conv => whnf
    repeat' (first
      | ((with_reducible refine Br.tt ?_); conv => whnf)
      | ((with_reducible refine Nd.mk ?_ ?_); (focus (first | omega | rfl | assumption | (simp; done))); conv => whnf)
      | ((with_reducible refine Nc.go' (fun _ => ?_)); conv => whnf)
      | (first | (refine Ld.at 0 rfl rfl ?_; conv => whnf) | (refine Ld.at 1 rfl rfl ?_; conv => whnf))
      | (refine St.at 0 rfl (by first | exact Nat.le_of_ble_eq_true rfl | (simp; done)) rfl ?_; conv => whnf)
      | ((with_reducible refine Cl.is (h _) ?_); conv => whnf))
    all_goals exact Is.ent (by (refine FEnt.ent ?_; (repeat (first | exact FEnt.rfl | (refine FEnt.at 2 rfl ?_; (try simp only [List.eraseIdx_cons_zero, List.eraseIdx_cons_succ, List.eraseIdx_zero, List.tail_cons])) | refine FEnt.drop ?_)); done)) (Is.tt (.inl hm))
  · have h := fun L => Tryz.spanMeetF _ _ _ _ L hm
    refine con_of Tryz.tysOk Tryz.func106 rfl rfl ?_
    conv => whnf
    repeat' (first
      | ((with_reducible refine Br.ff ?_); conv => whnf)
      | ((with_reducible refine Nd.mk ?_ ?_); (focus (first | omega | rfl | assumption | (simp; done))); conv => whnf)
      | ((with_reducible refine Nc.go' (fun _ => ?_)); conv => whnf)
      | (first | (refine Ld.at 0 rfl rfl ?_; conv => whnf) | (refine Ld.at 1 rfl rfl ?_; conv => whnf) | (refine Ld.at 2 rfl rfl ?_; conv => whnf))
      | (refine St.at 0 rfl (by first | exact Nat.le_of_ble_eq_true rfl | (simp; done)) rfl ?_; conv => whnf)
      | ((with_reducible refine Cl.is (h _) ?_); conv => whnf))
    all_goals exact Is.ent (by (refine FEnt.ent ?_; (repeat (first | exact FEnt.rfl | (refine FEnt.at 2 rfl ?_; (try simp only [List.eraseIdx_cons_zero, List.eraseIdx_cons_succ, List.eraseIdx_zero, List.tail_cons])) | refine FEnt.drop ?_)); done)) (Is.dec ⟨fun h => .inr h, fun h => h.resolve_left hm⟩)
theorem Tryz.confWn2 (C : Cfg) (i b : Nat) (A : HP) (L : List HP) (hB : CfB C) (hF : frF C) (hi : i < C.ws.length) (hr : Rd slE L C.wa C.ws) :
    Con Tryz.prog 104 [.int .i64 i, .pointer (some ⟨b, 0, none⟩)] (A :: ptc b 28 (cfC C) :: L) (Is (.bool (decide (b5 C i))) (A :: ptc b 28 (cfC C) :: L)) := by
  have hcc := hB.wc
  have hex := ex_take (d := slE.d) (xs := C.ws) (i := i) (p := fun y => decide (meetW (cW C i) y ∨ (cW C i).1 = y.1)) (q := fun y => meetW (cW C i) y ∨ (cW C i).1 = y.1) (by omega) (fun x => decide_eq_true_iff)
  have hct := fun b4 L (h : Rd slE L C.wa C.ws) => Tryz.wnContains C.wa C.wc (C.ws.take i) (ptc b4 43 [n64 (cW C i).1, n64 (cW C i).2.1, n64 (cW C i).2.2] :: L) (by have := hF.2.2; rw [List.length_take]; omega) (h.take i).cons 106 [.pointer (some ⟨b4, 0, none⟩)] (fun y => decide (meetW (cW C i) y ∨ (cW C i).1 = y.1)) (fun o f t => Tryz.confWn21 (cW C i) (o, f, t) b4 L)
  refine con_of Tryz.tysOk Tryz.func104 rfl rfl ?_
  conv => whnf
  repeat' (first
    | ((with_reducible refine Nd.mk ?_ ?_); (focus (first | omega | rfl | assumption | (simp; done))); conv => whnf)
    | ((with_reducible refine Nc.go' (fun _ => ?_)); conv => whnf)
    | ((with_reducible refine Ix.ad ?_ ?_ ?_); (focus (exact Rd.ad (by assumption))); (focus (omega)); conv => whnf)
    | ((with_reducible refine Sub.pre ?_ rfl ?_ ?_ ?_); (focus (first | exact Or.inl rfl | exact Or.inr ⟨_, rfl⟩)); (focus (omega)); (focus (omega)); conv => whnf)
    | (first | (refine Ld.at 1 rfl rfl ?_; conv => whnf) | (refine Ld.at 2 rfl rfl ?_; conv => whnf))
    | ((with_reducible apply LdN.rdk); (focus ((repeat (first | assumption | apply Rd.cons)); done)); (focus rfl); (focus rfl); (focus (omega)); conv => whnf)
    | (refine St.at 0 rfl (by first | exact Nat.le_of_ble_eq_true rfl | (simp; done)) rfl ?_; conv => whnf)
    | ((with_reducible refine (?_ : Cl _ 105 _ _ _ _)); (refine Cl.is (hct _ _ (by ((repeat (first | assumption | apply Rd.cons)); done))) ?_); conv => whnf))
  all_goals exact Is.ent (by (refine FEnt.ent ?_; (repeat (first | exact FEnt.rfl | (refine FEnt.at 1 rfl ?_; (try simp only [List.eraseIdx_cons_zero, List.eraseIdx_cons_succ, List.eraseIdx_zero, List.tail_cons])) | refine FEnt.drop ?_)); done)) (Is.dec hex)
theorem Tryz.confWn3 (o : Nat) (y : Slt) (b : Nat) (L : List HP) :
    Con Tryz.prog 107 [slV y.1 y.2.1 y.2.2, .pointer (some ⟨b, 0, none⟩)] (ptc b 3 [.int .i64 o] :: L) (Is (.bool (decide (y.1 = o))) (ptc b 3 [.int .i64 o] :: L)) := by
  refine con_of Tryz.tysOk Tryz.func107 rfl rfl ?_
  conv => whnf
  repeat' (first
    | ((with_reducible refine Nc.go' (fun _ => ?_)); conv => whnf)
    | (first | (refine Ld.at 0 rfl rfl ?_; conv => whnf) | (refine Ld.at 1 rfl rfl ?_; conv => whnf)))
  all_goals (refine Is.ent ?_ ?_; (focus (refine FEnt.ent ?_; (repeat (first | exact FEnt.rfl | (refine FEnt.at 1 rfl ?_; (try simp only [List.eraseIdx_cons_zero, List.eraseIdx_cons_succ, List.eraseIdx_zero, List.tail_cons])) | refine FEnt.drop ?_)); done)); (exact Is.rfl))
theorem Tryz.confWn4 (y : Slt) (L : List HP) :
    Con Tryz.prog 109 [slV y.1 y.2.1 y.2.2] L (Is (.bool (decide (y.1 = 0))) L) := by
  refine con_of Tryz.tysOk Tryz.func109 rfl rfl ?_
  conv => whnf
  repeat' (first
    | ((with_reducible refine Nc.go' (fun _ => ?_)); conv => whnf)
    | (refine Ld.at 0 rfl rfl ?_; conv => whnf))
  all_goals (refine Is.ent ?_ ?_; (focus (refine FEnt.ent ?_; (repeat (first | exact FEnt.rfl | refine FEnt.drop ?_)); done)); (exact Is.rfl))
theorem Tryz.confOwner (C : Cfg) (o : Nat) (b : Nat) (L : List HP) (hl : C.ws.length < 9223372036854775807) (hr : Rd slE L C.wa C.ws) :
    Con Tryz.prog 105 [.slice C.wa C.ws.length C.wc, .func (.func 107) #[] #[.pointer (some ⟨b, 0, none⟩)]] (ptc b 3 [.int .i64 o] :: L) (Is (.bool (decide (¬ b6 C o))) (ptc b 3 [.int .i64 o] :: L)) := by
  refine (Tryz.wnContains C.wa C.wc C.ws (ptc b 3 [.int .i64 o] :: L) hl hr.cons 107 [.pointer (some ⟨b, 0, none⟩)] (fun y => decide (y.1 = o)) (fun o' f t => Tryz.confWn3 o (o', f, t) b L)).mono (fun v L' h => ?_) (fun _ _ h => h)
  refine ⟨?_, h.l⟩
  rw [h.v]
  congr 1
  refine decide_eq_decide.2 ?_
  unfold b6
  rw [Classical.not_not]
  simp [cW]
theorem Tryz.confWindows (C : Cfg) (a : Option Addr) (c : Nat) (fs : List Sp) (L : List HP) (hB : CfB C) (hF : frF C) (hf : fs.length ≤ 500) (hc : fs.length ≤ c) (had : Ad a fs.length) (hr : Rd slE L C.wa C.ws) :
    Con Tryz.prog 56 [.slice a fs.length c, cfV C] (own spE 61 a c fs :: L)
      (Exs flV (fun y => own spE 61 y.1 y.2.1 y.2.2 :: L) (fun y => flOk y 28 fs ((∀ i, i < C.ws.length → ¬ b4 C i) ∧ (∀ i, i < C.ws.length → ¬ b5 C i) ∧ (∀ o, o < C.xs.length + 1 → ¬ b6 C o) ∧ ¬ b7 C))) := by
  have h1 := fun b a c fs (hf : fs.length ≤ 1000) hc had => Tryz.confRows 4 C.ws.length 102 [.pointer (some ⟨b, 0, none⟩)] (b4 C) a c fs (ptc b 28 (cfC C) :: L) (by omega) hf hc had (fun i A hi => Tryz.confWn1 C i b A L hB hi hr)
  have h2 := fun b a c fs (hf : fs.length ≤ 1000) hc had => Tryz.confRows 5 C.ws.length 104 [.pointer (some ⟨b, 0, none⟩)] (b5 C) a c fs (ptc b 28 (cfC C) :: L) (by omega) hf hc had (fun i A hi => Tryz.confWn2 C i b A L hB hF hi hr)
  have h3 := fun o b L (h : Rd slE L C.wa C.ws) => Tryz.confOwner C o b L (by omega) h
  have hix := fun L (h : Rd slE L C.wa C.ws) => Tryz.wnIndex C.wa C.wc C.ws L (by omega) h 109 [] (fun y => decide (y.1 = 0)) (fun o f t => Tryz.confWn4 (o, f, t) L)
  refine con_of Tryz.tysOk Tryz.func56 rfl rfl ?_
  conv => whnf
  repeat' (first
    | ((with_reducible refine Ar.i64 ?_ ?_); (focus omega); conv => whnf)
    | ((with_reducible refine Nc.go' (fun _ => ?_)); conv => whnf)
    | (first | (refine Ld.at 0 rfl rfl ?_; conv => whnf) | (refine Ld.at 1 rfl rfl ?_; conv => whnf))
    | (first | (apply (Cl.pre [own spE 61 _ _ _, ptc _ _ _]); (focus ((repeat (first | exact FEnt.rfl | (refine FEnt.at 1 rfl ?_; (try simp only [List.eraseIdx_cons_zero, List.eraseIdx_cons_succ, List.eraseIdx_zero, List.tail_cons])))); done)); refine Cl.exs (h1 _ _ _ _ (by omega) hc had) ?_; rintro ⟨a2, c2, f2⟩ ⟨⟨hl2, he2⟩, hc2, had2⟩; conv => whnf) | (apply (Cl.pre [own spE 61 _ _ _, ptc _ _ _]); (focus ((repeat (exact FEnt.rfl)); done)); refine Cl.exs (h2 _ _ _ _ (by dsimp only at *; omega) hc2 had2) ?_; rintro ⟨a3, c3, f3⟩ ⟨⟨hl3, he3⟩, hc3, had3⟩; conv => whnf)))
  rename_i b3
  dsimp only at hl2 he2 hc2 had2 hl3 he3 hc3 had3
  conv => whnf
  refine Lp.by3 Tryz.tysOk [23, 0] (fun (k : Nat) (ys : List Sp) (x : Option Addr × Nat) => [.int .i64 k, .slice x.1 ys.length x.2]) (fun k ys x => own spE 61 x.1 x.2 ys :: ptc b3 28 (cfC C) :: L) (fun k ys x => k ≤ C.xs.length + 1 ∧ ys.length ≤ f3.length + k ∧ (ys = [] ↔ f3 = [] ∧ ∀ i, i < k → ¬ b6 C i) ∧ ys.length ≤ x.2 ∧ Ad x.1 ys.length) (fun k ys x => C.xs.length + 1 - k) (0) (f3) (((a3, c3) : Option Addr × Nat)) (by kernel_rfl) (by (exact Ent.rfl)) (⟨by omega, by omega, ⟨fun h => ⟨h, fun i hi => by omega⟩, fun h => h.1⟩, hc3, had3⟩) ?_
  rintro k ys ⟨a4, c4⟩ ⟨g1, g2, g3, g4, g5⟩
  conv => whnf
  repeat (intro _; conv => whnf)
  dsimp only at g4 g5
  by_cases hk : k < C.xs.length + 1
  · by_cases hb : b6 C k
    · have hnb : ¬ ¬ b6 C k := fun h => h hb
      conv => whnf
      repeat' (first
        | (first | ((with_reducible refine Br.nf ?_); conv => whnf) | ((with_reducible refine Br.dt ?_ ?_); (focus (first | assumption | omega)); conv => whnf))
        | ((with_reducible refine Ar.i64 ?_ ?_); (focus omega); conv => whnf)
        | ((with_reducible refine Nd.mk ?_ ?_); (focus (first | omega | rfl | assumption | (simp; done))); conv => whnf)
        | ((with_reducible refine Nc.go' (fun _ => ?_)); conv => whnf)
        | (first | (refine Ld.at 0 rfl rfl ?_; conv => whnf) | (refine Ld.at 2 rfl rfl ?_; conv => whnf))
        | (refine St.at 0 rfl (by first | exact Nat.le_of_ble_eq_true rfl | (simp; done)) rfl ?_; conv => whnf)
        | ((with_reducible refine (?_ : Cl _ 105 _ _ _ _)); (refine Cl.is (Con.df hnb (h3 k _ _ (by ((repeat (first | assumption | apply Rd.cons)); done)))) ?_); conv => whnf)
        | ((with_reducible refine (?_ : Sm _ (Builtin.append_ _ _ _) _ _)); (((with_reducible apply (Sm.appAt (E := spE) (et := 61) Tryz.tysOk 2)); (focus rfl)); (rotate_left; (focus (exact Rd.ptc 0 rfl [(_, _)] rfl)); rotate_right; (focus rfl)); (focus rfl); (focus rfl); (focus rfl); (focus rfl); (focus rfl); (focus rfl); (focus ((simp only [List.length_append, List.length_cons, List.length_nil]); omega)); (intro _ _ _ _); conv => whnf)))
      all_goals (rename_i a5 c5 hc5 had5; exact ⟨k + 1, ys ++ [((k : Int), 6)], (a5, c5), by kernel_rfl, by (refine FEnt.ent ?_; (repeat (first | exact FEnt.rfl | (refine FEnt.at 0 rfl ?_; (try simp only [List.eraseIdx_cons_zero, List.eraseIdx_cons_succ, List.eraseIdx_zero, List.tail_cons])) | (refine FEnt.at 2 rfl ?_; (try simp only [List.eraseIdx_cons_zero, List.eraseIdx_cons_succ, List.eraseIdx_zero, List.tail_cons])) | refine FEnt.drop ?_)); done), ⟨by omega, by simp only [List.length_append, List.length_cons, List.length_nil]; omega, ⟨fun h => absurd h (by simp), fun h => absurd hb (h.2 k (by omega))⟩, hc5, had5⟩, by omega⟩)
    · conv => whnf
      repeat' (first
        | (first | ((with_reducible refine Br.nt ?_); conv => whnf) | ((with_reducible refine Br.dt ?_ ?_); (focus (first | assumption | omega)); conv => whnf))
        | ((with_reducible refine Ar.i64 ?_ ?_); (focus omega); conv => whnf)
        | ((with_reducible refine Nd.mk ?_ ?_); (focus (first | omega | rfl | assumption | (simp; done))); conv => whnf)
        | ((with_reducible refine Nc.go' (fun _ => ?_)); conv => whnf)
        | (refine Ld.at 2 rfl rfl ?_; conv => whnf)
        | (refine St.at 0 rfl (by first | exact Nat.le_of_ble_eq_true rfl | (simp; done)) rfl ?_; conv => whnf)
        | ((with_reducible refine (?_ : Cl _ 105 _ _ _ _)); (refine Cl.is (Con.dt hb (h3 k _ _ (by ((repeat (first | assumption | apply Rd.cons)); done)))) ?_); conv => whnf))
      all_goals exact ⟨k + 1, ys, (a4, c4), by kernel_rfl, by (refine FEnt.ent ?_; (repeat (first | exact FEnt.rfl | (refine FEnt.at 1 rfl ?_; (try simp only [List.eraseIdx_cons_zero, List.eraseIdx_cons_succ, List.eraseIdx_zero, List.tail_cons])) | refine FEnt.drop ?_)); done), ⟨by omega, by omega, ⟨fun h => ⟨(g3.1 h).1, lt_step (g3.1 h).2 hb⟩, fun h => g3.2 ⟨h.1, fun i hi => h.2 i (by omega)⟩⟩, g4, g5⟩, by omega⟩
  · have e : k = C.xs.length + 1 := by omega
    subst e
    rcases idxF_spec slE.d (fun y : Slt => decide (y.1 = 0)) C.ws with ⟨i1, i2⟩ | ⟨m, i1, i2, i3, i4⟩
    · rw [i1] at hix
      have hno : ¬ b7 C := fun ⟨k, hk, hz, _⟩ => by
        have := i2 k hk
        rw [decide_eq_false_iff_not] at this
        exact this hz
      conv => whnf
      repeat' (first
        | (first | ((with_reducible refine Br.ff ?_); conv => whnf) | ((with_reducible refine Br.df ?_ ?_); (focus (first | assumption | omega)); conv => whnf))
        | (refine Ld.at 1 rfl rfl ?_; conv => whnf)
        | ((with_reducible refine Dr.by (id := 11) Tryz.tysOk rfl [(0, 0), (1, 0), (2, 0), (4, 0), (6, 0), (3, 1), (5, 1), (7, 0), (8, 1), (9, 1), (10, 0), (11, 0), (12, 0), (14, 0), (18, 0), (20, 0), (25, 0), (13, 1), (15, 0), (16, 0), (17, 1), (19, 1), (21, 0), (22, 0), (23, 1), (24, 0), (26, 1), (27, 0), (28, 0), (29, 0), (30, 0)] ?_ ?_); (focus kernel_rfl); conv => whnf)
        | ((with_reducible refine (?_ : Cl _ 108 _ _ _ _)); (refine Cl.is (hix _ (by ((repeat (first | assumption | apply Rd.cons)); done))) ?_); conv => whnf))
      all_goals exact Exs.of ((a4, c4, ys) : Fl) (by (try dsimp only); (refine FEnt.ent ?_; (repeat (first | exact FEnt.rfl | (refine FEnt.at 0 rfl ?_; (try simp only [List.eraseIdx_cons_zero, List.eraseIdx_cons_succ, List.eraseIdx_zero, List.tail_cons])) | refine FEnt.drop ?_)); done)) ⟨⟨by (try dsimp only); omega, by (try dsimp only); rw [g3, he3, he2]; simp [hno, and_assoc]⟩, g4, g5⟩ rfl
    · rw [i2] at hix
      have hz : (cW C m).1 = 0 := of_decide_eq_true i3
      have hfi : ∀ j, j < m → ¬ (cW C j).1 = 0 := fun j hj => of_decide_eq_false (i4 j hj)
      have h7 : b7 C ↔ goodW C (cW C m) ∧ (cW C m).2.2 - (cW C m).2.1 < 2 * C.xs.length := by
        constructor
        · rintro ⟨k, k1, k2, k3, k4⟩
          have e : k = m := by
            rcases Nat.lt_trichotomy k m with h | h | h
            · exact (hfi k h k2).elim
            · exact h
            · exact (k3 m h hz).elim
          subst e
          exact k4
        · exact fun h => ⟨m, i1, hz, hfi, h⟩
      by_cases hg : goodW C (cW C m)
      · have hg2 : 0 ≤ (cW C m).2.1 ∧ (cW C m).2.1 < (cW C m).2.2 ∧ (cW C m).2.2 ≤ C.F := ⟨hg.2.1.1, hg.2.1.2, hg.2.2⟩
        by_cases hs : (cW C m).2.2 - (cW C m).2.1 < 2 * C.xs.length
        · have hy : b7 C := h7.2 ⟨hg, hs⟩
          clear h7
          simp only [cW] at hg hg2 hs
          conv => whnf
          repeat' (first
            | (first | ((with_reducible refine Br.tt ?_); conv => whnf) | ((with_reducible refine Br.dt ?_ ?_); (focus (first | assumption | omega)); conv => whnf) | ((with_reducible refine Br.df ?_ ?_); (focus (first | assumption | omega)); conv => whnf))
            | ((with_reducible refine Ar.i64 ?_ ?_); (focus omega); conv => whnf)
            | ((with_reducible refine Nc.go' (fun _ => ?_)); conv => whnf)
            | ((with_reducible refine Ix.ad ?_ ?_ ?_); (focus (exact Rd.ad (by assumption))); (focus (omega)); conv => whnf)
            | (first | ((with_reducible apply Ld.rdk); (focus ((repeat (first | assumption | apply Rd.cons)); done)); (focus rfl); (focus (omega)); (focus rfl); conv => whnf) | (refine Ld.at 1 rfl rfl ?_; conv => whnf))
            | (first | ((with_reducible apply LdN.rdk); (focus ((repeat (first | assumption | apply Rd.cons)); done)); (focus rfl); (focus rfl); (focus (omega)); conv => whnf) | (refine LdN.at 1 rfl (by first | exact Nat.le_of_ble_eq_true rfl | (simp; done)) ?_; conv => whnf))
            | ((with_reducible refine Dr.by (id := 11) Tryz.tysOk rfl [(0, 0), (1, 0), (2, 0), (4, 0), (6, 0), (3, 1), (5, 1), (7, 0), (8, 1), (9, 1), (10, 0), (11, 0), (12, 0), (14, 0), (18, 0), (20, 0), (25, 0), (13, 1), (15, 0), (16, 0), (17, 1), (19, 1), (21, 0), (22, 0), (23, 1), (24, 0), (26, 1), (27, 0), (28, 0), (29, 0), (30, 0)] ?_ ?_); (focus kernel_rfl); conv => whnf)
            | ((with_reducible refine CD.is (fun M => Con.dt hg (Tryz.confWindow _ _ _ _ _)) ?_); conv => whnf)
            | ((with_reducible refine (?_ : Cl _ 108 _ _ _ _)); (refine Cl.is (hix _ (by ((repeat (first | assumption | apply Rd.cons)); done))) ?_); conv => whnf)
            | ((with_reducible refine (?_ : Sm _ (Builtin.append_ _ _ _) _ _)); (((with_reducible apply (Sm.appAt (E := spE) (et := 61) Tryz.tysOk 1)); (focus rfl)); (rotate_left; (focus (exact Rd.ptc 0 rfl [(_, _)] rfl)); rotate_right; (focus rfl)); (focus rfl); (focus rfl); (focus rfl); (focus rfl); (focus rfl); (focus rfl); (focus ((simp only [List.length_append, List.length_cons, List.length_nil]); omega)); (intro _ _ _ _); conv => whnf)))
          all_goals (rename_i a5 c5 hc5 had5; exact Exs.of ((a5, c5, ys ++ [(0, 7)]) : Fl) (by (try dsimp only); (refine FEnt.ent ?_; (repeat (first | exact FEnt.rfl | (refine FEnt.at 0 rfl ?_; (try simp only [List.eraseIdx_cons_zero, List.eraseIdx_cons_succ, List.eraseIdx_zero, List.tail_cons])) | refine FEnt.drop ?_)); done)) ⟨⟨by simp only [List.length_append, List.length_cons, List.length_nil]; omega, ⟨fun h => absurd h (by simp), fun h => absurd hy h.2.2.2.2⟩⟩, hc5, had5⟩ rfl)
        · have hno : ¬ b7 C := fun h => hs (h7.1 h).2
          clear h7
          simp only [cW] at hg hg2 hs
          conv => whnf
          repeat' (first
            | (first | ((with_reducible refine Br.tt ?_); conv => whnf) | ((with_reducible refine Br.dt ?_ ?_); (focus (first | assumption | omega)); conv => whnf) | ((with_reducible refine Br.df ?_ ?_); (focus (first | assumption | omega)); conv => whnf))
            | ((with_reducible refine Ar.i64 ?_ ?_); (focus omega); conv => whnf)
            | ((with_reducible refine Ix.ad ?_ ?_ ?_); (focus (exact Rd.ad (by assumption))); (focus (omega)); conv => whnf)
            | (first | ((with_reducible apply Ld.rdk); (focus ((repeat (first | assumption | apply Rd.cons)); done)); (focus rfl); (focus (omega)); (focus rfl); conv => whnf) | (refine Ld.at 1 rfl rfl ?_; conv => whnf))
            | (first | ((with_reducible apply LdN.rdk); (focus ((repeat (first | assumption | apply Rd.cons)); done)); (focus rfl); (focus rfl); (focus (omega)); conv => whnf) | (refine LdN.at 1 rfl (by first | exact Nat.le_of_ble_eq_true rfl | (simp; done)) ?_; conv => whnf))
            | ((with_reducible refine Dr.by (id := 11) Tryz.tysOk rfl [(0, 0), (1, 0), (2, 0), (4, 0), (6, 0), (3, 1), (5, 1), (7, 0), (8, 1), (9, 1), (10, 0), (11, 0), (12, 0), (14, 0), (18, 0), (20, 0), (25, 0), (13, 1), (15, 0), (16, 0), (17, 1), (19, 1), (21, 0), (22, 0), (23, 1), (24, 0), (26, 1), (27, 0), (28, 0), (29, 0), (30, 0)] ?_ ?_); (focus kernel_rfl); conv => whnf)
            | ((with_reducible refine CD.is (fun M => Con.dt hg (Tryz.confWindow _ _ _ _ _)) ?_); conv => whnf)
            | ((with_reducible refine (?_ : Cl _ 108 _ _ _ _)); (refine Cl.is (hix _ (by ((repeat (first | assumption | apply Rd.cons)); done))) ?_); conv => whnf))
          all_goals exact Exs.of ((a4, c4, ys) : Fl) (by (try dsimp only); (refine FEnt.ent ?_; (repeat (first | exact FEnt.rfl | (refine FEnt.at 0 rfl ?_; (try simp only [List.eraseIdx_cons_zero, List.eraseIdx_cons_succ, List.eraseIdx_zero, List.tail_cons])) | refine FEnt.drop ?_)); done)) ⟨⟨by (try dsimp only); omega, by (try dsimp only); rw [g3, he3, he2]; simp [hno, and_assoc]⟩, g4, g5⟩ rfl
      · have hno : ¬ b7 C := fun h => hg (h7.1 h).1
        clear h7
        simp only [cW] at hg
        conv => whnf
        repeat' (first
          | (first | ((with_reducible refine Br.tt ?_); conv => whnf) | ((with_reducible refine Br.ff ?_); conv => whnf) | ((with_reducible refine Br.dt ?_ ?_); (focus (first | assumption | omega)); conv => whnf) | ((with_reducible refine Br.df ?_ ?_); (focus (first | assumption | omega)); conv => whnf))
          | ((with_reducible refine Ix.ad ?_ ?_ ?_); (focus (exact Rd.ad (by assumption))); (focus (omega)); conv => whnf)
          | (refine Ld.at 1 rfl rfl ?_; conv => whnf)
          | (first | ((with_reducible apply LdN.rdk); (focus ((repeat (first | assumption | apply Rd.cons)); done)); (focus rfl); (focus rfl); (focus (omega)); conv => whnf) | (refine LdN.at 1 rfl (by first | exact Nat.le_of_ble_eq_true rfl | (simp; done)) ?_; conv => whnf))
          | ((with_reducible refine Dr.by (id := 11) Tryz.tysOk rfl [(0, 0), (1, 0), (2, 0), (4, 0), (6, 0), (3, 1), (5, 1), (7, 0), (8, 1), (9, 1), (10, 0), (11, 0), (12, 0), (14, 0), (18, 0), (20, 0), (25, 0), (13, 1), (15, 0), (16, 0), (17, 1), (19, 1), (21, 0), (22, 0), (23, 1), (24, 0), (26, 1), (27, 0), (28, 0), (29, 0), (30, 0)] ?_ ?_); (focus kernel_rfl); conv => whnf)
          | ((with_reducible refine CD.is (fun M => Con.df hg (Tryz.confWindow _ _ _ _ _)) ?_); conv => whnf)
          | ((with_reducible refine (?_ : Cl _ 108 _ _ _ _)); (refine Cl.is (hix _ (by ((repeat (first | assumption | apply Rd.cons)); done))) ?_); conv => whnf))
        all_goals exact Exs.of ((a4, c4, ys) : Fl) (by (try dsimp only); (refine FEnt.ent ?_; (repeat (first | exact FEnt.rfl | (refine FEnt.at 0 rfl ?_; (try simp only [List.eraseIdx_cons_zero, List.eraseIdx_cons_succ, List.eraseIdx_zero, List.tail_cons])) | refine FEnt.drop ?_)); done)) ⟨⟨by (try dsimp only); omega, by (try dsimp only); rw [g3, he3, he2]; simp [hno, and_assoc]⟩, g4, g5⟩ rfl
end Go.Proofs
