/- One client more: the package's, where there is room, and the document's: contracts. -/
import Derived.Test.YtabonallopdgdaaBuildK
set_option linter.all false
namespace Go.Proofs
open Go.Eng
open Classical
set_option linter.unusedVariables false
set_option maxRecDepth 100000
set_option maxHeartbeats 2000000
theorem Try.bldAddOk (C : Cfg) (w : Wsh) (rb rf rp rs : Int) (nm nh : Nat) (L : List HP) (hB : CfB C) (hR : Right C) (h8 : ¬ C.xs.length = 8) (hw : mayW w) (hA : AddP C w rb rf rp rs nm nh) (hfu : ¬ addFull C rb rf rp rs) (h1 : Rd slE L C.wa C.ws) (h2 : Rd slE L C.sa C.ss) (h3 : Rd clE L C.ca C.xs) :
    Con Try.prog 16 [cfV C, wsV w] L (Exs (fun y : Row3 => .tuple #[.agg #[n64 C.F, .slice y.1.1 (newW C w rp).length y.1.2, .slice y.2.1.1 (newS C w rs).length y.2.1.2, .slice y.2.2.1 (newC C w rb rf nm nh).length y.2.2.2], n64 0])
      (fun y => own slE 62 y.1.1 y.1.2 (newW C w rp) :: own slE 67 y.2.1.1 y.2.1.2 (newS C w rs) :: own clE 64 y.2.2.1 y.2.2.2 (newC C w rb rf nm nh) :: L)
      (fun y => ((newW C w rp).length ≤ y.1.2 ∧ Ad y.1.1 (newW C w rp).length) ∧ ((newS C w rs).length ≤ y.2.1.2 ∧ Ad y.2.1.1 (newS C w rs).length) ∧ ((newC C w rb rf nm nh).length ≤ y.2.2.2 ∧ Ad y.2.2.1 (newC C w rb rf nm nh).length))) := by
  have hck := fun L h1 h2 h3 => Con.dt hR (Try.confCheck C L hB h1 h2 h3)
  have hm := fun L => Con.dt hw (Try.bldMay w L)
  have htk := fun L h1 h2 h3 => Try.bldTaken C L (right_s hR) h1 h2 h3
  have hcl := fun L => Try.bldClient w L hw
  have hbu := fun L => Try.bldBus w L hw
  have hss : ¬ shortC C := fun h => hfu (.inl h)
  have hsh := fun L h1 => Con.df hss (Try.bldShort C L hR h1)
  have hf := hR.f
  have hbd := addP_bd hA hw (by omega) (by omega)
  obtain ⟨g1, g2, g3, g4, g5, g6⟩ := hA
  obtain ⟨d1, d2, d3, d4, d5, d6⟩ := hbd
  have hfu : ¬ ((rb < 0 ∨ rf < 0 ∨ rp < 0 ∨ rs < 0) ∨ C.ss.length = 32) := fun h => hfu (.inr h)
  have hn : (0 ≤ rb ∧ 0 ≤ rf ∧ 0 ≤ rp ∧ 0 ≤ rs) ∧ C.ss.length ≠ 32 := by omega
  clear hfu hss
  have hwb : (32 ≤ w.z ∧ w.z ≤ 1024) ∧ (1 ≤ w.q ∧ w.q ≤ 16) ∧ (0 ≤ w.s ∧ w.s ≤ 64) ∧ (1 ≤ w.p ∧ w.p ≤ 4096) := by
    obtain ⟨⟨w1, w2, -, -⟩, ⟨w3, w4, -, -⟩, w5, w6, w7, w8⟩ := hw
    omega
  have l1 := memT_len C.xs
  have l2 := secT_len C.xs
  have l3 := spaT_len C.ws
  have l4 := spaT_len C.ss
  have gB := fun a c L h => Try.buildGap 16384 128 w.z rb a c (memT C.xs) L (by omega) (by omega) (by omega) h g1
  have gP := fun a c L h => Try.buildGap C.F 0 w.p rp a c (spaT C.ws) L (by omega) (by omega) (by omega) h g3
  have gS := fun a c L h => Try.buildGap C.F 0 (w.q * 4) rs a c (spaT C.ss) L (by omega) (by omega) (by omega) h g4
  have f1 := fun L h3 => Try.bldFree C.ca C.cc C.xs 38 (fun x => x.m) nm L (by omega) h3 (fun x L => Try.bldAdd1 x L) g5
  have f2 := fun L h3 => Try.bldFree C.ca C.cc C.xs 39 (fun x => x.h) nh L (by omega) h3 (fun x L => Try.bldAdd2 x L) g6
  have k1 := fun L h => Try.cloneWn C.wa C.wc C.ws L (by omega) h
  have k2 := fun L h => Try.cloneSl C.sa C.sc C.ss L (by omega) h
  have k3 := fun L h => Try.cloneCl C.ca C.cc C.xs L (by omega) h
  by_cases hs : 0 < w.s
  · rw [if_pos hs] at g2
    have gF := fun a c L h => Try.buildGap 512 0 w.s rf a c (secT C.xs) L (by omega) (by omega) (by omega) h g2
    clear g1 g2 g3 g4 g5 g6 hR hw hB
    refine con_of Try.tysOk Try.func16 rfl rfl ?_
    conv => whnf
    repeat' (first
      | (first | ((with_reducible refine Br.ff ?_); conv => whnf) | ((with_reducible refine Br.nt ?_); conv => whnf) | ((with_reducible refine Br.dt ?_ ?_); (focus (first | assumption | omega)); conv => whnf) | ((with_reducible refine Br.df ?_ ?_); (focus (first | assumption | omega)); conv => whnf))
      | ((with_reducible refine Ar.i64 ?_ ?_); (focus omega); conv => whnf)
      | ((with_reducible refine Nd.mk ?_ ?_); (focus (first | omega | rfl | assumption | (simp; done))); conv => whnf)
      | ((with_reducible refine Nc.go' (fun _ => ?_)); conv => whnf)
      | (first | (refine Ld.at 0 rfl rfl ?_; conv => whnf) | (refine Ld.at 2 rfl rfl ?_; conv => whnf) | (refine Ld.at 6 rfl rfl ?_; conv => whnf) | (refine Ld.at 7 rfl rfl ?_; conv => whnf))
      | (first | (refine LdN.at 1 rfl (by first | exact Nat.le_of_ble_eq_true rfl | (simp; done)) ?_; conv => whnf) | (refine LdN.at 2 rfl (by first | exact Nat.le_of_ble_eq_true rfl | (simp; done)) ?_; conv => whnf) | (refine LdN.at 5 rfl (by first | exact Nat.le_of_ble_eq_true rfl | (simp; done)) ?_; conv => whnf) | (refine LdN.at 6 rfl (by first | exact Nat.le_of_ble_eq_true rfl | (simp; done)) ?_; conv => whnf) | (refine LdN.at 7 rfl (by first | exact Nat.le_of_ble_eq_true rfl | (simp; done)) ?_; conv => whnf))
      | (refine St.at 0 rfl (by first | exact Nat.le_of_ble_eq_true rfl | (simp; done)) rfl ?_; conv => whnf)
      | ((with_reducible refine Dr.by (id := 12) Try.tysOk rfl [(0, 0), (2, 0), (4, 0), (6, 0), (10, 0), (1, 1), (3, 1), (5, 1), (7, 1), (8, 1), (9, 1), (11, 1), (12, 0), (13, 0)] ?_ ?_); (focus kernel_rfl); conv => whnf)
      | (first | ((with_reducible refine CD.is (fun M => hbu _) ?_); conv => whnf) | ((with_reducible refine (?_ : CD _ 14 _ _ _)); (first | refine CD.is (fun M => gP _ _ _ (by ((repeat (first | ((refine Rd.own 3 rfl ?_); (assumption)) | apply Rd.app)); done))) ?_ | refine CD.is (fun M => gS _ _ _ (by ((repeat (first | ((refine Rd.own 4 rfl ?_); (assumption)) | apply Rd.app)); done))) ?_); conv => whnf))
      | (first | ((with_reducible refine Cl.is (hck _ (by ((repeat (first | assumption | apply Rd.cons)); done)) (by ((repeat (first | assumption | apply Rd.cons)); done)) (by ((repeat (first | assumption | apply Rd.cons)); done))) ?_); conv => whnf) | ((with_reducible refine Cl.is (hm _) ?_); conv => whnf) | ((with_reducible refine (?_ : Cl _ 35 _ _ _ _)); (refine Cl.exs (htk _ (by ((repeat (first | assumption | apply Rd.cons)); done)) (by ((repeat (first | assumption | apply Rd.cons)); done)) (by ((repeat (first | assumption | apply Rd.cons)); done))) ?_; rintro ⟨⟨a2, c2⟩, ⟨a3, c3⟩, ⟨a4, c4⟩, ⟨a5, c5⟩⟩ ⟨⟨p1, p2⟩, ⟨p3, p4⟩, ⟨p5, p6⟩, ⟨p7, p8⟩⟩; dsimp only at p1 p2 p3 p4 p5 p6 p7 p8); conv => whnf) | ((with_reducible refine Cl.is (hcl _) ?_); conv => whnf) | ((with_reducible refine (?_ : Cl _ 14 _ _ _ _)); (first | refine Cl.is (gB _ _ _ (by ((repeat ((refine Rd.own 1 rfl ?_); (assumption))); done))) ?_ | refine Cl.is (gF _ _ _ (by ((repeat ((refine Rd.own 2 rfl ?_); (assumption))); done))) ?_); conv => whnf) | ((with_reducible refine Cl.is (hsh _ (by ((repeat (first | assumption | apply Rd.cons)); done))) ?_); conv => whnf) | ((with_reducible refine (?_ : Cl _ 37 _ _ _ _)); (first | refine Cl.is (f1 _ (by ((repeat (first | assumption | apply Rd.cons)); done))) ?_ | refine Cl.is (f2 _ (by ((repeat (first | assumption | apply Rd.cons)); done))) ?_); conv => whnf)))
    rename_i bc bw br bx
    conv => whnf
    refine Dr.fr (id := 18) Try.tysOk rfl [(0, 0), (2, 0), (5, 0), (6, 0), (7, 0), (8, 0), (14, 0), (17, 0), (18, 0), (19, 0), (26, 0), (1, 1), (3, 1), (9, 1), (10, 0), (11, 0), (15, 1), (20, 1), (27, 1), (29, 1), (4, 5), (12, 2), (13, 5), (16, 5), (21, 1), (22, 0), (23, 0), (24, 2), (25, 5), (28, 5), (30, 2), (31, 5), (32, 0), (33, 5), (34, 0)] ([ptc br 34 [n64 0, .slice none 0 0, .slice none 0 0, .slice none 0 0]]) (ptc bx 64 (clC (newX w rb rf nm nh)) :: ptc bw 27 (wsE.e w) :: ptc bc 34 (cfC C) :: L) (by kernel_rfl) (by (refine FEnt.ent ?_; (repeat (first | exact FEnt.rfl | (refine FEnt.at 0 rfl ?_; (try simp only [List.eraseIdx_cons_zero, List.eraseIdx_cons_succ, List.eraseIdx_zero, List.tail_cons])) | (refine FEnt.at 4 rfl ?_; (try simp only [List.eraseIdx_cons_zero, List.eraseIdx_cons_succ, List.eraseIdx_zero, List.tail_cons])) | (refine FEnt.at 5 rfl ?_; (try simp only [List.eraseIdx_cons_zero, List.eraseIdx_cons_succ, List.eraseIdx_zero, List.tail_cons])) | refine FEnt.drop ?_)); done)) ?_
    conv => whnf
    conv => whnf
    repeat' (first
      | ((with_reducible refine Ar.i64 ?_ ?_); (focus omega); conv => whnf)
      | ((with_reducible refine Nd.mk ?_ ?_); (focus (first | omega | rfl | assumption | (simp; done))); conv => whnf)
      | ((with_reducible refine Nc.go' (fun _ => ?_)); conv => whnf)
      | (first | (refine Ld.at 1 rfl rfl ?_; conv => whnf) | (refine Ld.at 2 rfl rfl ?_; conv => whnf))
      | (first | (refine LdN.at 0 rfl (by first | exact Nat.le_of_ble_eq_true rfl | (simp; done)) ?_; conv => whnf) | (refine LdN.at 1 rfl (by first | exact Nat.le_of_ble_eq_true rfl | (simp; done)) ?_; conv => whnf) | (refine LdN.at 6 rfl (by first | exact Nat.le_of_ble_eq_true rfl | (simp; done)) ?_; conv => whnf))
      | (first | ((with_reducible refine (?_ : CF _ 40 _ _ _ _)); (refine CF.new (fun M => k1 _ (Rd.mid (by ((repeat (first | assumption | apply Rd.cons)); done)) M)) (fun _ _ _ _ => ?_)); conv => whnf) | ((with_reducible refine (?_ : CF _ 41 _ _ _ _)); (refine CF.new (fun M => k2 _ (Rd.mid (by ((repeat (first | assumption | apply Rd.cons)); done)) M)) (fun _ _ _ _ => ?_)); conv => whnf) | ((with_reducible refine (?_ : CF _ 42 _ _ _ _)); (refine CF.new (fun M => k3 _ (Rd.mid (by ((repeat (first | assumption | apply Rd.cons)); done)) M)) (fun _ _ _ _ => ?_)); conv => whnf))
      | (refine FS.at 6 rfl (by first | exact Nat.le_of_ble_eq_true rfl | (simp; done)) rfl ?_; conv => whnf)
      | ((with_reducible refine (?_ : SF _ (Builtin.append_ _ _ _) _ _ _)); (first | (((with_reducible apply (SF.appAt (E := slE) (et := 67) Try.tysOk 1)); (focus rfl)); (rotate_left; (focus (exact Rd.ptc 0 rfl [(_, _, _)] rfl)); rotate_right; (focus rfl)); (focus rfl); (focus rfl); (focus rfl); (focus rfl); (focus rfl); (focus rfl); (focus ((simp only [List.length_append, List.length_cons, List.length_nil]); omega)); (intro _ _ _ _); conv => whnf) | (((with_reducible apply (SF.appAt (E := slE) (et := 62) Try.tysOk 1)); (focus rfl)); (rotate_left; (focus (exact Rd.ptc 0 rfl [(_, _, _)] rfl)); rotate_right; (focus rfl)); (focus rfl); (focus rfl); (focus rfl); (focus rfl); (focus rfl); (focus rfl); (focus ((simp only [List.length_append, List.length_cons, List.length_nil]); omega)); (intro _ _ _ _); conv => whnf) | (((with_reducible apply (SF.appAt (E := clE) (et := 64) Try.tysOk 1)); (focus rfl)); (rotate_left; (focus (exact Rd.ptc 0 rfl [_] rfl)); rotate_right; (focus rfl)); (focus rfl); (focus rfl); (focus rfl); (focus rfl); (focus rfl); (focus rfl); (focus ((simp only [List.length_append, List.length_cons, List.length_nil]); omega)); (intro _ _ _ _); conv => whnf)))
      | ((with_reducible refine CD.is (fun M => hbu _) ?_); conv => whnf))
    rename_i q1 q2 q3 q4 q5 aw cw hcw haw r1 r2 r3 r4 r5 sa2 cs hcs has t1 t2 t3 t4 t5 ac cc hcc hac
    unfold newW newS newC
    exact Exs.of (((aw, cw), (sa2, cs), (ac, cc)) : Row3) (by (try dsimp only); (refine FEnt.ent ?_; (repeat (first | exact FEnt.rfl | (refine FEnt.at 0 rfl ?_; (try simp only [List.eraseIdx_cons_zero, List.eraseIdx_cons_succ, List.eraseIdx_zero, List.tail_cons])) | (refine FEnt.at 2 rfl ?_; (try simp only [List.eraseIdx_cons_zero, List.eraseIdx_cons_succ, List.eraseIdx_zero, List.tail_cons])) | (refine FEnt.at 4 rfl ?_; (try simp only [List.eraseIdx_cons_zero, List.eraseIdx_cons_succ, List.eraseIdx_zero, List.tail_cons])) | refine FEnt.drop ?_)); done)) ⟨⟨hcw, haw⟩, ⟨hcs, has⟩, ⟨hcc, hac⟩⟩ rfl
  · rw [if_neg hs] at g2
    subst g2
    clear g1 g3 g4 g5 g6 hR hw hB
    refine con_of Try.tysOk Try.func16 rfl rfl ?_
    conv => whnf
    repeat' (first
      | (first | ((with_reducible refine Br.ff ?_); conv => whnf) | ((with_reducible refine Br.nt ?_); conv => whnf) | ((with_reducible refine Br.df ?_ ?_); (focus (first | assumption | omega)); conv => whnf) | ((with_reducible refine Br.no ?_ ?_); (focus (first | (simp; done) | (simp; omega))); conv => whnf))
      | ((with_reducible refine Ar.i64 ?_ ?_); (focus omega); conv => whnf)
      | ((with_reducible refine Nd.mk ?_ ?_); (focus (first | omega | rfl | assumption | (simp; done))); conv => whnf)
      | ((with_reducible refine Nc.go' (fun _ => ?_)); conv => whnf)
      | (first | (refine Ld.at 0 rfl rfl ?_; conv => whnf) | (refine Ld.at 2 rfl rfl ?_; conv => whnf) | (refine Ld.at 6 rfl rfl ?_; conv => whnf) | (refine Ld.at 7 rfl rfl ?_; conv => whnf))
      | (first | (refine LdN.at 1 rfl (by first | exact Nat.le_of_ble_eq_true rfl | (simp; done)) ?_; conv => whnf) | (refine LdN.at 2 rfl (by first | exact Nat.le_of_ble_eq_true rfl | (simp; done)) ?_; conv => whnf) | (refine LdN.at 5 rfl (by first | exact Nat.le_of_ble_eq_true rfl | (simp; done)) ?_; conv => whnf) | (refine LdN.at 6 rfl (by first | exact Nat.le_of_ble_eq_true rfl | (simp; done)) ?_; conv => whnf) | (refine LdN.at 7 rfl (by first | exact Nat.le_of_ble_eq_true rfl | (simp; done)) ?_; conv => whnf))
      | (refine St.at 0 rfl (by first | exact Nat.le_of_ble_eq_true rfl | (simp; done)) rfl ?_; conv => whnf)
      | ((with_reducible refine Dr.by (id := 12) Try.tysOk rfl [(0, 0), (2, 0), (4, 0), (6, 0), (10, 0), (1, 1), (3, 1), (5, 1), (7, 1), (8, 1), (9, 1), (11, 1), (12, 0), (13, 0)] ?_ ?_); (focus kernel_rfl); conv => whnf)
      | (first | ((with_reducible refine CD.is (fun M => hbu _) ?_); conv => whnf) | ((with_reducible refine (?_ : CD _ 14 _ _ _)); (first | refine CD.is (fun M => gP _ _ _ (by ((repeat (first | ((refine Rd.own 3 rfl ?_); (assumption)) | apply Rd.app)); done))) ?_ | refine CD.is (fun M => gS _ _ _ (by ((repeat (first | ((refine Rd.own 4 rfl ?_); (assumption)) | apply Rd.app)); done))) ?_); conv => whnf))
      | (first | ((with_reducible refine Cl.is (hck _ (by ((repeat (first | assumption | apply Rd.cons)); done)) (by ((repeat (first | assumption | apply Rd.cons)); done)) (by ((repeat (first | assumption | apply Rd.cons)); done))) ?_); conv => whnf) | ((with_reducible refine Cl.is (hm _) ?_); conv => whnf) | ((with_reducible refine (?_ : Cl _ 35 _ _ _ _)); (refine Cl.exs (htk _ (by ((repeat (first | assumption | apply Rd.cons)); done)) (by ((repeat (first | assumption | apply Rd.cons)); done)) (by ((repeat (first | assumption | apply Rd.cons)); done))) ?_; rintro ⟨⟨a2, c2⟩, ⟨a3, c3⟩, ⟨a4, c4⟩, ⟨a5, c5⟩⟩ ⟨⟨p1, p2⟩, ⟨p3, p4⟩, ⟨p5, p6⟩, ⟨p7, p8⟩⟩; dsimp only at p1 p2 p3 p4 p5 p6 p7 p8); conv => whnf) | ((with_reducible refine Cl.is (hcl _) ?_); conv => whnf) | ((with_reducible refine (?_ : Cl _ 14 _ _ _ _)); (refine Cl.is (gB _ _ _ (by ((repeat ((refine Rd.own 1 rfl ?_); (assumption))); done))) ?_); conv => whnf) | ((with_reducible refine Cl.is (hsh _ (by ((repeat (first | assumption | apply Rd.cons)); done))) ?_); conv => whnf) | ((with_reducible refine (?_ : Cl _ 37 _ _ _ _)); (first | refine Cl.is (f1 _ (by ((repeat (first | assumption | apply Rd.cons)); done))) ?_ | refine Cl.is (f2 _ (by ((repeat (first | assumption | apply Rd.cons)); done))) ?_); conv => whnf)))
    rename_i bc bw br bx
    conv => whnf
    refine Dr.fr (id := 18) Try.tysOk rfl [(0, 0), (2, 0), (5, 0), (6, 0), (7, 0), (8, 0), (14, 0), (17, 0), (18, 0), (19, 0), (26, 0), (1, 1), (3, 1), (9, 1), (10, 0), (11, 0), (15, 1), (20, 1), (27, 1), (29, 1), (4, 5), (12, 2), (13, 5), (16, 5), (21, 1), (22, 0), (23, 0), (24, 2), (25, 5), (28, 5), (30, 2), (31, 5), (32, 0), (33, 5), (34, 0)] ([ptc br 34 [n64 0, .slice none 0 0, .slice none 0 0, .slice none 0 0]]) (ptc bx 64 (clC (newX w rb 0 nm nh)) :: ptc bw 27 (wsE.e w) :: ptc bc 34 (cfC C) :: L) (by kernel_rfl) (by (refine FEnt.ent ?_; (repeat (first | exact FEnt.rfl | (refine FEnt.at 0 rfl ?_; (try simp only [List.eraseIdx_cons_zero, List.eraseIdx_cons_succ, List.eraseIdx_zero, List.tail_cons])) | (refine FEnt.at 4 rfl ?_; (try simp only [List.eraseIdx_cons_zero, List.eraseIdx_cons_succ, List.eraseIdx_zero, List.tail_cons])) | (refine FEnt.at 5 rfl ?_; (try simp only [List.eraseIdx_cons_zero, List.eraseIdx_cons_succ, List.eraseIdx_zero, List.tail_cons])) | refine FEnt.drop ?_)); done)) ?_
    conv => whnf
    conv => whnf
    repeat' (first
      | ((with_reducible refine Ar.i64 ?_ ?_); (focus omega); conv => whnf)
      | ((with_reducible refine Nd.mk ?_ ?_); (focus (first | omega | rfl | assumption | (simp; done))); conv => whnf)
      | ((with_reducible refine Nc.go' (fun _ => ?_)); conv => whnf)
      | (first | (refine Ld.at 1 rfl rfl ?_; conv => whnf) | (refine Ld.at 2 rfl rfl ?_; conv => whnf))
      | (first | (refine LdN.at 0 rfl (by first | exact Nat.le_of_ble_eq_true rfl | (simp; done)) ?_; conv => whnf) | (refine LdN.at 1 rfl (by first | exact Nat.le_of_ble_eq_true rfl | (simp; done)) ?_; conv => whnf) | (refine LdN.at 6 rfl (by first | exact Nat.le_of_ble_eq_true rfl | (simp; done)) ?_; conv => whnf))
      | (first | ((with_reducible refine (?_ : CF _ 40 _ _ _ _)); (refine CF.new (fun M => k1 _ (Rd.mid (by ((repeat (first | assumption | apply Rd.cons)); done)) M)) (fun _ _ _ _ => ?_)); conv => whnf) | ((with_reducible refine (?_ : CF _ 41 _ _ _ _)); (refine CF.new (fun M => k2 _ (Rd.mid (by ((repeat (first | assumption | apply Rd.cons)); done)) M)) (fun _ _ _ _ => ?_)); conv => whnf) | ((with_reducible refine (?_ : CF _ 42 _ _ _ _)); (refine CF.new (fun M => k3 _ (Rd.mid (by ((repeat (first | assumption | apply Rd.cons)); done)) M)) (fun _ _ _ _ => ?_)); conv => whnf))
      | (refine FS.at 6 rfl (by first | exact Nat.le_of_ble_eq_true rfl | (simp; done)) rfl ?_; conv => whnf)
      | ((with_reducible refine (?_ : SF _ (Builtin.append_ _ _ _) _ _ _)); (first | (((with_reducible apply (SF.appAt (E := slE) (et := 67) Try.tysOk 1)); (focus rfl)); (rotate_left; (focus (exact Rd.ptc 0 rfl [(_, _, _)] rfl)); rotate_right; (focus rfl)); (focus rfl); (focus rfl); (focus rfl); (focus rfl); (focus rfl); (focus rfl); (focus ((simp only [List.length_append, List.length_cons, List.length_nil]); omega)); (intro _ _ _ _); conv => whnf) | (((with_reducible apply (SF.appAt (E := slE) (et := 62) Try.tysOk 1)); (focus rfl)); (rotate_left; (focus (exact Rd.ptc 0 rfl [(_, _, _)] rfl)); rotate_right; (focus rfl)); (focus rfl); (focus rfl); (focus rfl); (focus rfl); (focus rfl); (focus rfl); (focus ((simp only [List.length_append, List.length_cons, List.length_nil]); omega)); (intro _ _ _ _); conv => whnf) | (((with_reducible apply (SF.appAt (E := clE) (et := 64) Try.tysOk 1)); (focus rfl)); (rotate_left; (focus (exact Rd.ptc 0 rfl [_] rfl)); rotate_right; (focus rfl)); (focus rfl); (focus rfl); (focus rfl); (focus rfl); (focus rfl); (focus rfl); (focus ((simp only [List.length_append, List.length_cons, List.length_nil]); omega)); (intro _ _ _ _); conv => whnf)))
      | ((with_reducible refine CD.is (fun M => hbu _) ?_); conv => whnf))
    rename_i q1 q2 q3 q4 q5 aw cw hcw haw r1 r2 r3 r4 r5 sa2 cs hcs has t1 t2 t3 t4 t5 ac cc hcc hac
    unfold newW newS newC
    exact Exs.of (((aw, cw), (sa2, cs), (ac, cc)) : Row3) (by (try dsimp only); (refine FEnt.ent ?_; (repeat (first | exact FEnt.rfl | (refine FEnt.at 0 rfl ?_; (try simp only [List.eraseIdx_cons_zero, List.eraseIdx_cons_succ, List.eraseIdx_zero, List.tail_cons])) | (refine FEnt.at 2 rfl ?_; (try simp only [List.eraseIdx_cons_zero, List.eraseIdx_cons_succ, List.eraseIdx_zero, List.tail_cons])) | (refine FEnt.at 4 rfl ?_; (try simp only [List.eraseIdx_cons_zero, List.eraseIdx_cons_succ, List.eraseIdx_zero, List.tail_cons])) | refine FEnt.drop ?_)); done)) ⟨⟨hcw, haw⟩, ⟨hcs, has⟩, ⟨hcc, hac⟩⟩ rfl
theorem Try.refAddNo (C : Cfg) (w : Wsh) (rb rf rp rs : Int) (nm nh : Nat) (L : List HP) (hR : Right C) (h8 : ¬ C.xs.length = 8) (hw : mayW w) (hA : AddP C w rb rf rp rs nm nh) (hfu : addFull C rb rf rp rs) (h1 : Rd slE L C.wa C.ws) (h2 : Rd slE L C.sa C.ss) (h3 : Rd clE L C.ca C.xs) :
    Con Try.prog 17 [cfV C, wsV w] L (Is (.tuple #[cfV9, .bool false]) L) := by
  have htk := fun L h1 h2 h3 => Try.refSpans C L (right_s hR) h1 h2 h3
  have hf := hR.f
  have hbd := addP_bd hA hw (by omega) (by omega)
  obtain ⟨g1, g2, g3, g4, g5, g6⟩ := hA
  obtain ⟨d1, d2, d3, d4, d5, d6⟩ := hbd
  have hwb : (32 ≤ w.z ∧ w.z ≤ 1024) ∧ (1 ≤ w.q ∧ w.q ≤ 16) ∧ (0 ≤ w.s ∧ w.s ≤ 64) ∧ (1 ≤ w.p ∧ w.p ≤ 4096) := by
    obtain ⟨⟨w1, w2, -, -⟩, ⟨w3, w4, -, -⟩, w5, w6, w7, w8⟩ := hw
    omega
  have hwn : ∀ i, i < C.ws.length → (0 ≤ (C.ws.getD i slE.d).2.1 ∧ (C.ws.getD i slE.d).2.1 < (C.ws.getD i slE.d).2.2) ∧ (C.ws.getD i slE.d).2.2 ≤ C.F := fun i hi => by
    have hg : goodW C (cW C i) := Classical.byContradiction fun hn => hR.r4 i hi hn
    exact ⟨⟨hg.2.1.1, hg.2.1.2⟩, hg.2.2⟩
  have l1 := memT_len C.xs
  have l2 := secT_len C.xs
  have l3 := spaT_len C.ws
  have l4 := spaT_len C.ss
  have gB := fun a c L h => Try.refGap 16384 128 w.z rb a c (memT C.xs) L (by omega) (by omega) (by omega) (by omega) h (gapR_s (by omega) (by omega) g1)
  have gP := fun a c L h => Try.refGap C.F 0 w.p rp a c (spaT C.ws) L (by omega) (by omega) (by omega) (by omega) h (gapR_s (by omega) (by omega) g3)
  have gS := fun a c L h => Try.refGap C.F 0 (w.q * 4) rs a c (spaT C.ss) L (by omega) (by omega) (by omega) (by omega) h (gapR_s (by omega) (by omega) g4)
  rw [Int.mul_comm w.q 4] at gS
  by_cases hs : 0 < w.s
  · rw [if_pos hs] at g2
    have gF := fun a c L h => Try.refGap 512 0 w.s rf a c (secT C.xs) L (by omega) (by omega) (by omega) (by omega) h (gapR_s (by omega) (by omega) g2)
    clear g1 g2 g3 g4 g5 g6 hR hw
    refine con_of Try.tysOk Try.func17 rfl rfl ?_
    conv => whnf
    repeat' (first
      | ((with_reducible refine Br.dt ?_ ?_); (focus (first | assumption | omega)); conv => whnf)
      | ((with_reducible refine Ar.i64 ?_ ?_); (focus omega); conv => whnf)
      | ((with_reducible refine Nd.mk ?_ ?_); (focus (first | omega | rfl | assumption | (simp; done))); conv => whnf)
      | ((with_reducible refine Nc.go' (fun _ => ?_)); conv => whnf)
      | (first | (refine Ld.at 5 rfl rfl ?_; conv => whnf) | (refine Ld.at 6 rfl rfl ?_; conv => whnf))
      | (refine LdN.at 2 rfl (by first | exact Nat.le_of_ble_eq_true rfl | (simp; done)) ?_; conv => whnf)
      | (first | ((with_reducible refine (?_ : Cl _ 43 _ _ _ _)); (refine Cl.exs (htk _ (by ((repeat (first | assumption | apply Rd.cons)); done)) (by ((repeat (first | assumption | apply Rd.cons)); done)) (by ((repeat (first | assumption | apply Rd.cons)); done))) ?_; rintro ⟨⟨a2, c2⟩, ⟨a3, c3⟩, ⟨a4, c4⟩, ⟨a5, c5⟩⟩ ⟨⟨p1, p2⟩, ⟨p3, p4⟩, ⟨p5, p6⟩, ⟨p7, p8⟩⟩; dsimp only at p1 p2 p3 p4 p5 p6 p7 p8); conv => whnf) | ((with_reducible refine (?_ : Cl _ 15 _ _ _ _)); (first | refine Cl.is (gB _ _ _ (by ((repeat ((refine Rd.own 0 rfl ?_); (assumption))); done))) ?_ | refine Cl.is (gF _ _ _ (by ((repeat ((refine Rd.own 1 rfl ?_); (assumption))); done))) ?_ | refine Cl.is (gP _ _ _ (by ((repeat ((refine Rd.own 2 rfl ?_); (assumption))); done))) ?_ | refine Cl.is (gS _ _ _ (by ((repeat ((refine Rd.own 3 rfl ?_); (assumption))); done))) ?_); conv => whnf)))
    rename_i bc bw br
    conv => whnf
    refine Lp.by Try.tysOk [15] (fun (k : Nat) => [.int .i64 k]) (fun k => ptc br 34 [n64 0, .slice none 0 0, .slice none 0 0, .slice none 0 0] :: ptc bw 25 (wsE.e w) :: ptc bc 34 (cfC C) :: L) (fun k => k ≤ C.ws.length ∧ ∀ i, i < k → ¬ shortW C.xs.length (C.ws.getD i slE.d)) (fun k => C.ws.length - k) (0) (by kernel_rfl) (by (refine FEnt.ent ?_; (repeat (first | exact FEnt.rfl | (refine FEnt.at 4 rfl ?_; (try simp only [List.eraseIdx_cons_zero, List.eraseIdx_cons_succ, List.eraseIdx_zero, List.tail_cons])) | refine FEnt.drop ?_)); done)) (⟨by omega, fun i hi => by omega⟩) ?_
    rintro k ⟨u1, u2⟩
    conv => whnf
    repeat (intro _; conv => whnf)
    by_cases hk : k < C.ws.length
    · by_cases hns : shortW C.xs.length (C.ws.getD k slE.d)
      · have hwk := hwn k hk
        have hn1 := hns.1
        have hn2 := hns.2
        clear hwn hns
        conv => whnf
        repeat' (first
          | (first | ((with_reducible refine Br.tt ?_); conv => whnf) | ((with_reducible refine Br.dt ?_ ?_); (focus (first | assumption | omega)); conv => whnf))
          | ((with_reducible refine Ar.i64 ?_ ?_); (focus omega); conv => whnf)
          | ((with_reducible refine Nd.mk ?_ ?_); (focus (first | omega | rfl | assumption | (simp; done))); conv => whnf)
          | ((with_reducible refine Ix.ad ?_ ?_ ?_); (focus (exact Rd.ad (by assumption))); (focus (omega)); conv => whnf)
          | (first | ((first | (with_reducible apply Ld.rdk) | (with_reducible apply Ld.rdk0)); (focus ((repeat (first | assumption | apply Rd.cons)); done)); (focus rfl); (focus (omega)); (focus rfl); conv => whnf) | (refine Ld.at 2 rfl rfl ?_; conv => whnf))
          | (refine LdN.at 0 rfl (by first | exact Nat.le_of_ble_eq_true rfl | (simp; done)) ?_; conv => whnf)
          | (refine St.at 0 rfl (by first | exact Nat.le_of_ble_eq_true rfl | (simp; done)) rfl ?_; conv => whnf)
          | ((with_reducible refine Dr.by (id := 12) Try.tysOk rfl [(0, 0), (2, 0), (1, 1), (3, 0), (4, 0), (5, 1), (6, 0), (7, 0), (8, 0), (10, 0), (14, 0), (16, 0), (21, 0), (22, 0), (23, 0), (9, 1), (11, 0), (12, 0), (13, 1), (15, 1), (17, 0), (18, 0), (19, 1), (20, 0), (24, 0), (25, 0)] ?_ ?_); (focus kernel_rfl); conv => whnf))
        all_goals first | (refine Is.ent ?_ ?_; (focus (refine FEnt.ent ?_; (repeat (first | exact FEnt.rfl | refine FEnt.drop ?_)); done)); (exact Is.rfl)) | (exfalso; omega)
      · have hwk := hwn k hk
        have hnw : ¬ ((C.ws.getD k slE.d).1 = 0 ∧ (C.ws.getD k slE.d).2.2 - (C.ws.getD k slE.d).2.1 < 2 * (C.xs.length : Int) + 2) := fun h => hns ⟨h.1, by omega⟩
        clear hwn
        conv => whnf
        repeat' (first
          | (first | ((with_reducible refine Br.tt ?_); conv => whnf) | ((with_reducible refine Br.ff ?_); conv => whnf) | ((with_reducible refine Br.dt ?_ ?_); (focus (first | assumption | omega)); conv => whnf) | ((with_reducible refine Br.df ?_ ?_); (focus (first | assumption | omega)); conv => whnf))
          | ((with_reducible refine Ar.i64 ?_ ?_); (focus omega); conv => whnf)
          | ((with_reducible refine Ix.ad ?_ ?_ ?_); (focus (exact Rd.ad (by assumption))); (focus (omega)); conv => whnf)
          | (first | ((first | (with_reducible apply Ld.rdk) | (with_reducible apply Ld.rdk0)); (focus ((repeat (first | assumption | apply Rd.cons)); done)); (focus rfl); (focus (omega)); (focus rfl); conv => whnf) | (refine Ld.at 2 rfl rfl ?_; conv => whnf))
          | ((with_reducible refine Dr.by (id := 12) Try.tysOk rfl [(0, 0), (2, 0), (1, 1), (3, 0), (4, 0), (5, 1), (6, 0), (7, 0), (8, 0), (10, 0), (14, 0), (16, 0), (21, 0), (22, 0), (23, 0), (9, 1), (11, 0), (12, 0), (13, 1), (15, 1), (17, 0), (18, 0), (19, 1), (20, 0), (24, 0), (25, 0)] ?_ ?_); (focus kernel_rfl); conv => whnf)
          | ((with_reducible refine Br.ds (fun _ => ?_) (fun _ => ?_) ) <;> (conv => whnf)))
        all_goals first | exact ⟨k + 1, by kernel_rfl, by (exact Ent.rfl), ⟨by omega, lt_step u2 hns⟩, by omega⟩ | (exfalso; omega)
    · have hfu := hfu.resolve_left (fun ⟨i, hi, h⟩ => u2 i (by omega) h)
      clear hwn u2
      conv => whnf
      repeat' (first
        | (first | ((with_reducible refine Br.tt ?_); conv => whnf) | ((with_reducible refine Br.ff ?_); conv => whnf) | ((with_reducible refine Br.dt ?_ ?_); (focus (first | assumption | omega)); conv => whnf) | ((with_reducible refine Br.df ?_ ?_); (focus (first | assumption | omega)); conv => whnf))
        | ((with_reducible refine Nd.mk ?_ ?_); (focus (first | omega | rfl | assumption | (simp; done))); conv => whnf)
        | (refine Ld.at 2 rfl rfl ?_; conv => whnf)
        | (refine LdN.at 0 rfl (by first | exact Nat.le_of_ble_eq_true rfl | (simp; done)) ?_; conv => whnf)
        | (refine St.at 0 rfl (by first | exact Nat.le_of_ble_eq_true rfl | (simp; done)) rfl ?_; conv => whnf)
        | ((with_reducible refine Br.ds (fun _ => ?_) (fun _ => ?_) ) <;> (conv => whnf)))
      all_goals first | (refine Is.ent ?_ ?_; (focus (refine FEnt.ent ?_; (repeat (first | exact FEnt.rfl | refine FEnt.drop ?_)); done)); (exact Is.rfl)) | (exfalso; omega)
  · rw [if_neg hs] at g2
    subst g2
    clear g1 g3 g4 g5 g6 hR hw
    refine con_of Try.tysOk Try.func17 rfl rfl ?_
    conv => whnf
    repeat' (first
      | ((with_reducible refine Br.df ?_ ?_); (focus (first | assumption | omega)); conv => whnf)
      | ((with_reducible refine Ar.i64 ?_ ?_); (focus omega); conv => whnf)
      | ((with_reducible refine Nd.mk ?_ ?_); (focus (first | omega | rfl | assumption | (simp; done))); conv => whnf)
      | ((with_reducible refine Nc.go' (fun _ => ?_)); conv => whnf)
      | (first | (refine Ld.at 5 rfl rfl ?_; conv => whnf) | (refine Ld.at 6 rfl rfl ?_; conv => whnf))
      | (refine LdN.at 2 rfl (by first | exact Nat.le_of_ble_eq_true rfl | (simp; done)) ?_; conv => whnf)
      | (first | ((with_reducible refine (?_ : Cl _ 43 _ _ _ _)); (refine Cl.exs (htk _ (by ((repeat (first | assumption | apply Rd.cons)); done)) (by ((repeat (first | assumption | apply Rd.cons)); done)) (by ((repeat (first | assumption | apply Rd.cons)); done))) ?_; rintro ⟨⟨a2, c2⟩, ⟨a3, c3⟩, ⟨a4, c4⟩, ⟨a5, c5⟩⟩ ⟨⟨p1, p2⟩, ⟨p3, p4⟩, ⟨p5, p6⟩, ⟨p7, p8⟩⟩; dsimp only at p1 p2 p3 p4 p5 p6 p7 p8); conv => whnf) | ((with_reducible refine (?_ : Cl _ 15 _ _ _ _)); (first | refine Cl.is (gB _ _ _ (by ((repeat ((refine Rd.own 0 rfl ?_); (assumption))); done))) ?_ | refine Cl.is (gP _ _ _ (by ((repeat ((refine Rd.own 2 rfl ?_); (assumption))); done))) ?_ | refine Cl.is (gS _ _ _ (by ((repeat ((refine Rd.own 3 rfl ?_); (assumption))); done))) ?_); conv => whnf)))
    rename_i bc bw br
    conv => whnf
    refine Lp.by Try.tysOk [15] (fun (k : Nat) => [.int .i64 k]) (fun k => ptc br 34 [n64 0, .slice none 0 0, .slice none 0 0, .slice none 0 0] :: ptc bw 25 (wsE.e w) :: ptc bc 34 (cfC C) :: L) (fun k => k ≤ C.ws.length ∧ ∀ i, i < k → ¬ shortW C.xs.length (C.ws.getD i slE.d)) (fun k => C.ws.length - k) (0) (by kernel_rfl) (by (refine FEnt.ent ?_; (repeat (first | exact FEnt.rfl | (refine FEnt.at 4 rfl ?_; (try simp only [List.eraseIdx_cons_zero, List.eraseIdx_cons_succ, List.eraseIdx_zero, List.tail_cons])) | refine FEnt.drop ?_)); done)) (⟨by omega, fun i hi => by omega⟩) ?_
    rintro k ⟨u1, u2⟩
    conv => whnf
    repeat (intro _; conv => whnf)
    by_cases hk : k < C.ws.length
    · by_cases hns : shortW C.xs.length (C.ws.getD k slE.d)
      · have hwk := hwn k hk
        have hn1 := hns.1
        have hn2 := hns.2
        clear hwn hns
        conv => whnf
        repeat' (first
          | (first | ((with_reducible refine Br.tt ?_); conv => whnf) | ((with_reducible refine Br.dt ?_ ?_); (focus (first | assumption | omega)); conv => whnf))
          | ((with_reducible refine Ar.i64 ?_ ?_); (focus omega); conv => whnf)
          | ((with_reducible refine Nd.mk ?_ ?_); (focus (first | omega | rfl | assumption | (simp; done))); conv => whnf)
          | ((with_reducible refine Ix.ad ?_ ?_ ?_); (focus (exact Rd.ad (by assumption))); (focus (omega)); conv => whnf)
          | (first | ((first | (with_reducible apply Ld.rdk) | (with_reducible apply Ld.rdk0)); (focus ((repeat (first | assumption | apply Rd.cons)); done)); (focus rfl); (focus (omega)); (focus rfl); conv => whnf) | (refine Ld.at 2 rfl rfl ?_; conv => whnf))
          | (refine LdN.at 0 rfl (by first | exact Nat.le_of_ble_eq_true rfl | (simp; done)) ?_; conv => whnf)
          | (refine St.at 0 rfl (by first | exact Nat.le_of_ble_eq_true rfl | (simp; done)) rfl ?_; conv => whnf)
          | ((with_reducible refine Dr.by (id := 12) Try.tysOk rfl [(0, 0), (2, 0), (1, 1), (3, 0), (4, 0), (5, 1), (6, 0), (7, 0), (8, 0), (10, 0), (14, 0), (16, 0), (21, 0), (22, 0), (23, 0), (9, 1), (11, 0), (12, 0), (13, 1), (15, 1), (17, 0), (18, 0), (19, 1), (20, 0), (24, 0), (25, 0)] ?_ ?_); (focus kernel_rfl); conv => whnf))
        all_goals first | (refine Is.ent ?_ ?_; (focus (refine FEnt.ent ?_; (repeat (first | exact FEnt.rfl | refine FEnt.drop ?_)); done)); (exact Is.rfl)) | (exfalso; omega)
      · have hwk := hwn k hk
        have hnw : ¬ ((C.ws.getD k slE.d).1 = 0 ∧ (C.ws.getD k slE.d).2.2 - (C.ws.getD k slE.d).2.1 < 2 * (C.xs.length : Int) + 2) := fun h => hns ⟨h.1, by omega⟩
        clear hwn
        conv => whnf
        repeat' (first
          | (first | ((with_reducible refine Br.tt ?_); conv => whnf) | ((with_reducible refine Br.ff ?_); conv => whnf) | ((with_reducible refine Br.dt ?_ ?_); (focus (first | assumption | omega)); conv => whnf) | ((with_reducible refine Br.df ?_ ?_); (focus (first | assumption | omega)); conv => whnf))
          | ((with_reducible refine Ar.i64 ?_ ?_); (focus omega); conv => whnf)
          | ((with_reducible refine Ix.ad ?_ ?_ ?_); (focus (exact Rd.ad (by assumption))); (focus (omega)); conv => whnf)
          | (first | ((first | (with_reducible apply Ld.rdk) | (with_reducible apply Ld.rdk0)); (focus ((repeat (first | assumption | apply Rd.cons)); done)); (focus rfl); (focus (omega)); (focus rfl); conv => whnf) | (refine Ld.at 2 rfl rfl ?_; conv => whnf))
          | ((with_reducible refine Dr.by (id := 12) Try.tysOk rfl [(0, 0), (2, 0), (1, 1), (3, 0), (4, 0), (5, 1), (6, 0), (7, 0), (8, 0), (10, 0), (14, 0), (16, 0), (21, 0), (22, 0), (23, 0), (9, 1), (11, 0), (12, 0), (13, 1), (15, 1), (17, 0), (18, 0), (19, 1), (20, 0), (24, 0), (25, 0)] ?_ ?_); (focus kernel_rfl); conv => whnf)
          | ((with_reducible refine Br.ds (fun _ => ?_) (fun _ => ?_) ) <;> (conv => whnf)))
        all_goals first | exact ⟨k + 1, by kernel_rfl, by (exact Ent.rfl), ⟨by omega, lt_step u2 hns⟩, by omega⟩ | (exfalso; omega)
    · have hfu := hfu.resolve_left (fun ⟨i, hi, h⟩ => u2 i (by omega) h)
      clear hwn u2
      conv => whnf
      repeat' (first
        | (first | ((with_reducible refine Br.tt ?_); conv => whnf) | ((with_reducible refine Br.ff ?_); conv => whnf) | ((with_reducible refine Br.dt ?_ ?_); (focus (first | assumption | omega)); conv => whnf) | ((with_reducible refine Br.df ?_ ?_); (focus (first | assumption | omega)); conv => whnf))
        | ((with_reducible refine Nd.mk ?_ ?_); (focus (first | omega | rfl | assumption | (simp; done))); conv => whnf)
        | (refine Ld.at 2 rfl rfl ?_; conv => whnf)
        | (refine LdN.at 0 rfl (by first | exact Nat.le_of_ble_eq_true rfl | (simp; done)) ?_; conv => whnf)
        | (refine St.at 0 rfl (by first | exact Nat.le_of_ble_eq_true rfl | (simp; done)) rfl ?_; conv => whnf)
        | ((with_reducible refine Br.ds (fun _ => ?_) (fun _ => ?_) ) <;> (conv => whnf)))
      all_goals first | (refine Is.ent ?_ ?_; (focus (refine FEnt.ent ?_; (repeat (first | exact FEnt.rfl | refine FEnt.drop ?_)); done)); (exact Is.rfl)) | (exfalso; omega)
theorem Try.refAddOk (C : Cfg) (w : Wsh) (rb rf rp rs : Int) (nm nh : Nat) (L : List HP) (hR : Right C) (h8 : ¬ C.xs.length = 8) (hw : mayW w) (hA : AddP C w rb rf rp rs nm nh) (hfu : ¬ addFull C rb rf rp rs) (h1 : Rd slE L C.wa C.ws) (h2 : Rd slE L C.sa C.ss) (h3 : Rd clE L C.ca C.xs) :
    Con Try.prog 17 [cfV C, wsV w] L (Exs (fun y : Row3 => .tuple #[.agg #[n64 C.F, .slice y.1.1 (newW C w rp).length y.1.2, .slice y.2.1.1 (newS C w rs).length y.2.1.2, .slice y.2.2.1 (newC C w rb rf nm nh).length y.2.2.2], .bool true])
      (fun y => own slE 62 y.1.1 y.1.2 (newW C w rp) :: own slE 67 y.2.1.1 y.2.1.2 (newS C w rs) :: own clE 64 y.2.2.1 y.2.2.2 (newC C w rb rf nm nh) :: L)
      (fun y => ((newW C w rp).length ≤ y.1.2 ∧ Ad y.1.1 (newW C w rp).length) ∧ ((newS C w rs).length ≤ y.2.1.2 ∧ Ad y.2.1.1 (newS C w rs).length) ∧ ((newC C w rb rf nm nh).length ≤ y.2.2.2 ∧ Ad y.2.2.1 (newC C w rb rf nm nh).length))) := by
  have htk := fun L h1 h2 h3 => Try.refSpans C L (right_s hR) h1 h2 h3
  have hf := hR.f
  have hbd := addP_bd hA hw (by omega) (by omega)
  obtain ⟨g1, g2, g3, g4, g5, g6⟩ := hA
  obtain ⟨d1, d2, d3, d4, d5, d6⟩ := hbd
  have hwb : (32 ≤ w.z ∧ w.z ≤ 1024) ∧ (1 ≤ w.q ∧ w.q ≤ 16) ∧ (0 ≤ w.s ∧ w.s ≤ 64) ∧ (1 ≤ w.p ∧ w.p ≤ 4096) := by
    obtain ⟨⟨w1, w2, -, -⟩, ⟨w3, w4, -, -⟩, w5, w6, w7, w8⟩ := hw
    omega
  have hwn : ∀ i, i < C.ws.length → (0 ≤ (C.ws.getD i slE.d).2.1 ∧ (C.ws.getD i slE.d).2.1 < (C.ws.getD i slE.d).2.2) ∧ (C.ws.getD i slE.d).2.2 ≤ C.F := fun i hi => by
    have hg : goodW C (cW C i) := Classical.byContradiction fun hn => hR.r4 i hi hn
    exact ⟨⟨hg.2.1.1, hg.2.1.2⟩, hg.2.2⟩
  have l1 := memT_len C.xs
  have l2 := secT_len C.xs
  have l3 := spaT_len C.ws
  have l4 := spaT_len C.ss
  have gB := fun a c L h => Try.refGap 16384 128 w.z rb a c (memT C.xs) L (by omega) (by omega) (by omega) (by omega) h (gapR_s (by omega) (by omega) g1)
  have gP := fun a c L h => Try.refGap C.F 0 w.p rp a c (spaT C.ws) L (by omega) (by omega) (by omega) (by omega) h (gapR_s (by omega) (by omega) g3)
  have gS := fun a c L h => Try.refGap C.F 0 (w.q * 4) rs a c (spaT C.ss) L (by omega) (by omega) (by omega) (by omega) h (gapR_s (by omega) (by omega) g4)
  rw [Int.mul_comm w.q 4] at gS
  have hss : ¬ shortC C := fun h => hfu (.inl h)
  have hfu : ¬ ((rb < 0 ∨ rf < 0 ∨ rp < 0 ∨ rs < 0) ∨ C.ss.length = 32) := fun h => hfu (.inr h)
  have hn : (0 ≤ rb ∧ 0 ≤ rf ∧ 0 ≤ rp ∧ 0 ≤ rs) ∧ C.ss.length ≠ 32 := by omega
  clear hfu
  have lm := fun L h => Try.refLeastM C nm L (by omega) h g5 (by omega)
  have lh := fun L h => Try.refLeastH C nh L (by omega) h g6 (by omega)
  have hcl := fun L => Try.refClient w rb rf nm nh L hw
  by_cases hs : 0 < w.s
  · rw [if_pos hs] at g2
    have gF := fun a c L h => Try.refGap 512 0 w.s rf a c (secT C.xs) L (by omega) (by omega) (by omega) (by omega) h (gapR_s (by omega) (by omega) g2)
    clear g1 g2 g3 g4 g5 g6 hR hw
    refine con_of Try.tysOk Try.func17 rfl rfl ?_
    conv => whnf
    repeat' (first
      | ((with_reducible refine Br.dt ?_ ?_); (focus (first | assumption | omega)); conv => whnf)
      | ((with_reducible refine Ar.i64 ?_ ?_); (focus omega); conv => whnf)
      | ((with_reducible refine Nd.mk ?_ ?_); (focus (first | omega | rfl | assumption | (simp; done))); conv => whnf)
      | ((with_reducible refine Nc.go' (fun _ => ?_)); conv => whnf)
      | (first | (refine Ld.at 5 rfl rfl ?_; conv => whnf) | (refine Ld.at 6 rfl rfl ?_; conv => whnf))
      | (refine LdN.at 2 rfl (by first | exact Nat.le_of_ble_eq_true rfl | (simp; done)) ?_; conv => whnf)
      | (first | ((with_reducible refine (?_ : Cl _ 43 _ _ _ _)); (refine Cl.exs (htk _ (by ((repeat (first | assumption | apply Rd.cons)); done)) (by ((repeat (first | assumption | apply Rd.cons)); done)) (by ((repeat (first | assumption | apply Rd.cons)); done))) ?_; rintro ⟨⟨a2, c2⟩, ⟨a3, c3⟩, ⟨a4, c4⟩, ⟨a5, c5⟩⟩ ⟨⟨p1, p2⟩, ⟨p3, p4⟩, ⟨p5, p6⟩, ⟨p7, p8⟩⟩; dsimp only at p1 p2 p3 p4 p5 p6 p7 p8); conv => whnf) | ((with_reducible refine (?_ : Cl _ 15 _ _ _ _)); (first | refine Cl.is (gB _ _ _ (by ((repeat ((refine Rd.own 0 rfl ?_); (assumption))); done))) ?_ | refine Cl.is (gF _ _ _ (by ((repeat ((refine Rd.own 1 rfl ?_); (assumption))); done))) ?_ | refine Cl.is (gP _ _ _ (by ((repeat ((refine Rd.own 2 rfl ?_); (assumption))); done))) ?_ | refine Cl.is (gS _ _ _ (by ((repeat ((refine Rd.own 3 rfl ?_); (assumption))); done))) ?_); conv => whnf)))
    rename_i bc bw br
    conv => whnf
    refine Lp.by Try.tysOk [15] (fun (k : Nat) => [.int .i64 k]) (fun k => ptc br 34 [n64 0, .slice none 0 0, .slice none 0 0, .slice none 0 0] :: ptc bw 25 (wsE.e w) :: ptc bc 34 (cfC C) :: L) (fun k => k ≤ C.ws.length ∧ ∀ i, i < k → ¬ shortW C.xs.length (C.ws.getD i slE.d)) (fun k => C.ws.length - k) (0) (by kernel_rfl) (by (refine FEnt.ent ?_; (repeat (first | exact FEnt.rfl | (refine FEnt.at 4 rfl ?_; (try simp only [List.eraseIdx_cons_zero, List.eraseIdx_cons_succ, List.eraseIdx_zero, List.tail_cons])) | refine FEnt.drop ?_)); done)) (⟨by omega, fun i hi => by omega⟩) ?_
    rintro k ⟨u1, u2⟩
    conv => whnf
    repeat (intro _; conv => whnf)
    by_cases hk : k < C.ws.length
    · have hns : ¬ shortW C.xs.length (C.ws.getD k slE.d) := fun h => hss ⟨k, hk, h⟩
      have hwk := hwn k hk
      have hnw : ¬ ((C.ws.getD k slE.d).1 = 0 ∧ (C.ws.getD k slE.d).2.2 - (C.ws.getD k slE.d).2.1 < 2 * (C.xs.length : Int) + 2) := fun h => hns ⟨h.1, by omega⟩
      clear hwn
      conv => whnf
      repeat' (first
        | (first | ((with_reducible refine Br.tt ?_); conv => whnf) | ((with_reducible refine Br.ff ?_); conv => whnf) | ((with_reducible refine Br.dt ?_ ?_); (focus (first | assumption | omega)); conv => whnf) | ((with_reducible refine Br.df ?_ ?_); (focus (first | assumption | omega)); conv => whnf))
        | ((with_reducible refine Ar.i64 ?_ ?_); (focus omega); conv => whnf)
        | ((with_reducible refine Ix.ad ?_ ?_ ?_); (focus (exact Rd.ad (by assumption))); (focus (omega)); conv => whnf)
        | (first | ((first | (with_reducible apply Ld.rdk) | (with_reducible apply Ld.rdk0)); (focus ((repeat (first | assumption | apply Rd.cons)); done)); (focus rfl); (focus (omega)); (focus rfl); conv => whnf) | (refine Ld.at 2 rfl rfl ?_; conv => whnf))
        | ((with_reducible refine Dr.by (id := 12) Try.tysOk rfl [(0, 0), (2, 0), (1, 1), (3, 0), (4, 0), (5, 1), (6, 0), (7, 0), (8, 0), (10, 0), (14, 0), (16, 0), (21, 0), (22, 0), (23, 0), (9, 1), (11, 0), (12, 0), (13, 1), (15, 1), (17, 0), (18, 0), (19, 1), (20, 0), (24, 0), (25, 0)] ?_ ?_); (focus kernel_rfl); conv => whnf)
        | ((with_reducible refine Br.ds (fun _ => ?_) (fun _ => ?_) ) <;> (conv => whnf)))
      all_goals first | exact ⟨k + 1, by kernel_rfl, by (exact Ent.rfl), ⟨by omega, lt_step u2 hns⟩, by omega⟩ | (exfalso; omega)
    · clear hwn u2 hss
      conv => whnf
      repeat' (first
        | (first | ((with_reducible refine Br.ff ?_); conv => whnf) | ((with_reducible refine Br.df ?_ ?_); (focus (first | assumption | omega)); conv => whnf))
        | ((with_reducible refine Nd.mk ?_ ?_); (focus (first | omega | rfl | assumption | (simp; done))); conv => whnf)
        | ((with_reducible refine Nc.go' (fun _ => ?_)); conv => whnf)
        | (refine Ld.at 2 rfl rfl ?_; conv => whnf)
        | (refine St.at 0 rfl (by first | exact Nat.le_of_ble_eq_true rfl | (simp; done)) rfl ?_; conv => whnf))
      rename_i bd
      conv => whnf
      refine Dr.fr (id := 17) Try.tysOk rfl [(1, 0), (4, 0), (5, 0), (6, 0), (7, 0), (8, 0), (2, 1), (9, 1), (10, 0), (11, 0), (0, 2), (3, 5), (12, 2), (13, 5), (14, 0), (15, 5)] ([ptc bd 34 [n64 C.F, .slice none 0 0, .slice none 0 0, .slice none 0 0]]) (ptc br 34 [n64 0, .slice none 0 0, .slice none 0 0, .slice none 0 0] :: ptc bw 25 (wsE.e w) :: ptc bc 34 (cfC C) :: L) (by kernel_rfl) (by (exact Ent.rfl)) ?_
      conv => whnf
      conv => whnf
      repeat' (first
        | ((with_reducible refine Ar.i64 ?_ ?_); (focus omega); conv => whnf)
        | ((with_reducible refine Nd.mk ?_ ?_); (focus (first | omega | rfl | assumption | (simp; done))); conv => whnf)
        | ((with_reducible refine Nc.go' (fun _ => ?_)); conv => whnf)
        | (first | (refine Ld.at 1 rfl rfl ?_; conv => whnf) | (refine Ld.at 2 rfl rfl ?_; conv => whnf))
        | (refine FS.at 2 rfl (by first | exact Nat.le_of_ble_eq_true rfl | (simp; done)) rfl ?_; conv => whnf)
        | ((with_reducible refine (?_ : SF _ (Builtin.append_ _ _ _) _ _ _)); (first | (((with_reducible apply (SF.appAt (E := slE) (et := 62) Try.tysOk 1)); (focus rfl)); (rotate_left; (focus (exact Rd.ptc 0 rfl [(_, _, _)] rfl)); rotate_right; (focus rfl)); (focus rfl); (focus rfl); (focus rfl); (focus rfl); (focus rfl); (focus rfl); (focus ((simp only [List.length_append, List.length_cons, List.length_nil]); omega)); (intro _ _ _ _); conv => whnf) | (((with_reducible_and_instances apply (SF.appNew (E := slE) (et := 62) Try.tysOk 0)); (focus rfl)); ((focus rfl); (focus ((repeat (first | assumption | apply Rd.cons)); done))); (focus rfl); (focus rfl); (focus rfl); (focus rfl); (focus rfl); (focus (omega)); (intro _ _ _ _); conv => whnf))))
      rename_i e1 aw0 cw0 hw0 hd0 e2 aw cw hcw haw
      conv => whnf
      refine Dr.fr (id := 18) Try.tysOk rfl [(1, 0), (4, 0), (5, 0), (6, 0), (7, 0), (8, 0), (2, 1), (9, 1), (10, 0), (11, 0), (12, 0), (0, 2), (3, 5), (13, 2), (14, 5), (15, 0), (16, 5)] ([ptc bd 34 [n64 C.F, .slice aw (C.ws ++ [((C.xs.length : Int) + 1, rp, rp + w.p)]).length cw, .slice none 0 0, .slice none 0 0]]) (own slE 62 aw cw (C.ws ++ [((C.xs.length : Int) + 1, rp, rp + w.p)]) :: ptc br 34 [n64 0, .slice none 0 0, .slice none 0 0, .slice none 0 0] :: ptc bw 25 (wsE.e w) :: ptc bc 34 (cfC C) :: L) (by kernel_rfl) (by (refine FEnt.ent ?_; (repeat (first | exact FEnt.rfl | (refine FEnt.at 0 rfl ?_; (try simp only [List.eraseIdx_cons_zero, List.eraseIdx_cons_succ, List.eraseIdx_zero, List.tail_cons])) | (refine FEnt.at 1 rfl ?_; (try simp only [List.eraseIdx_cons_zero, List.eraseIdx_cons_succ, List.eraseIdx_zero, List.tail_cons])) | (refine FEnt.at 2 rfl ?_; (try simp only [List.eraseIdx_cons_zero, List.eraseIdx_cons_succ, List.eraseIdx_zero, List.tail_cons])) | refine FEnt.drop ?_)); done)) ?_
      conv => whnf
      conv => whnf
      repeat' (first
        | ((with_reducible refine Ar.i64 ?_ ?_); (focus omega); conv => whnf)
        | ((with_reducible refine Nd.mk ?_ ?_); (focus (first | omega | rfl | assumption | (simp; done))); conv => whnf)
        | ((with_reducible refine Nc.go' (fun _ => ?_)); conv => whnf)
        | (first | (refine Ld.at 2 rfl rfl ?_; conv => whnf) | (refine Ld.at 3 rfl rfl ?_; conv => whnf))
        | (refine FS.at 2 rfl (by first | exact Nat.le_of_ble_eq_true rfl | (simp; done)) rfl ?_; conv => whnf)
        | ((with_reducible refine (?_ : SF _ (Builtin.append_ _ _ _) _ _ _)); (first | (((with_reducible apply (SF.appAt (E := slE) (et := 67) Try.tysOk 1)); (focus rfl)); (rotate_left; (focus (exact Rd.ptc 0 rfl [(_, _, _)] rfl)); rotate_right; (focus rfl)); (focus rfl); (focus rfl); (focus rfl); (focus rfl); (focus rfl); (focus rfl); (focus ((simp only [List.length_append, List.length_cons, List.length_nil]); omega)); (intro _ _ _ _); conv => whnf) | (((with_reducible_and_instances apply (SF.appNew (E := slE) (et := 67) Try.tysOk 0)); (focus rfl)); ((focus rfl); (focus ((repeat (first | assumption | apply Rd.cons)); done))); (focus rfl); (focus rfl); (focus rfl); (focus rfl); (focus rfl); (focus (omega)); (intro _ _ _ _); conv => whnf))))
      rename_i e3 as0 cs0 hs0 hd1 e4 sa2 cs hcs has
      conv => whnf
      refine Dr.fr (id := 19) Try.tysOk rfl [(1, 0), (5, 0), (6, 0), (2, 1), (4, 1), (7, 1), (9, 1), (0, 2), (3, 5), (8, 1), (10, 1), (11, 1), (12, 2), (13, 5), (14, 0), (15, 5)] ([ptc bd 34 [n64 C.F, .slice aw (C.ws ++ [((C.xs.length : Int) + 1, rp, rp + w.p)]).length cw, .slice sa2 (C.ss ++ [((C.xs.length : Int) + 1, rs, rs + 4 * w.q)]).length cs, .slice none 0 0]]) (own slE 67 sa2 cs (C.ss ++ [((C.xs.length : Int) + 1, rs, rs + 4 * w.q)]) :: own slE 62 aw cw (C.ws ++ [((C.xs.length : Int) + 1, rp, rp + w.p)]) :: ptc br 34 [n64 0, .slice none 0 0, .slice none 0 0, .slice none 0 0] :: ptc bw 25 (wsE.e w) :: ptc bc 34 (cfC C) :: L) (by kernel_rfl) (by (refine FEnt.ent ?_; (repeat (first | exact FEnt.rfl | (refine FEnt.at 0 rfl ?_; (try simp only [List.eraseIdx_cons_zero, List.eraseIdx_cons_succ, List.eraseIdx_zero, List.tail_cons])) | (refine FEnt.at 1 rfl ?_; (try simp only [List.eraseIdx_cons_zero, List.eraseIdx_cons_succ, List.eraseIdx_zero, List.tail_cons])) | (refine FEnt.at 2 rfl ?_; (try simp only [List.eraseIdx_cons_zero, List.eraseIdx_cons_succ, List.eraseIdx_zero, List.tail_cons])) | refine FEnt.drop ?_)); done)) ?_
      conv => whnf
      conv => whnf
      repeat' (first
        | ((with_reducible refine Nd.mk ?_ ?_); (focus (first | omega | rfl | assumption | (simp; done))); conv => whnf)
        | ((with_reducible refine Nc.go' (fun _ => ?_)); conv => whnf)
        | (refine Ld.at 4 rfl rfl ?_; conv => whnf)
        | (first | (refine LdN.at 2 rfl (by first | exact Nat.le_of_ble_eq_true rfl | (simp; done)) ?_; conv => whnf) | (refine LdN.at 3 rfl (by first | exact Nat.le_of_ble_eq_true rfl | (simp; done)) ?_; conv => whnf) | (refine LdN.at 4 rfl (by first | exact Nat.le_of_ble_eq_true rfl | (simp; done)) ?_; conv => whnf) | (refine LdN.at 5 rfl (by first | exact Nat.le_of_ble_eq_true rfl | (simp; done)) ?_; conv => whnf))
        | (refine St.at 5 rfl (by first | exact Nat.le_of_ble_eq_true rfl | (simp; done)) rfl ?_; conv => whnf)
        | (refine FS.at 2 rfl (by first | exact Nat.le_of_ble_eq_true rfl | (simp; done)) rfl ?_; conv => whnf)
        | ((with_reducible refine (?_ : SF _ (Builtin.append_ _ _ _) _ _ _)); (first | (((with_reducible apply (SF.appAt (E := clE) (et := 64) Try.tysOk 1)); (focus rfl)); (rotate_left; (focus (exact Rd.ptc 0 rfl [_] rfl)); rotate_right; (focus rfl)); (focus rfl); (focus rfl); (focus rfl); (focus rfl); (focus rfl); (focus rfl); (focus ((simp only [List.length_append, List.length_cons, List.length_nil]); omega)); (intro _ _ _ _); conv => whnf) | (((with_reducible_and_instances apply (SF.appNew (E := clE) (et := 64) Try.tysOk 0)); (focus rfl)); ((focus rfl); (focus ((repeat (first | assumption | apply Rd.cons)); done))); (focus rfl); (focus rfl); (focus rfl); (focus rfl); (focus rfl); (focus (omega)); (intro _ _ _ _); conv => whnf)))
        | (first | ((with_reducible refine CD.is (fun M => hcl _) ?_); conv => whnf) | ((with_reducible refine (?_ : CD _ 44 _ _ _)); (first | refine CD.is (fun M => lm _ (by ((repeat (first | assumption | apply Rd.cons | apply Rd.app)); done))) ?_ | refine CD.is (fun M => lh _ (by ((repeat (first | assumption | apply Rd.cons | apply Rd.app)); done))) ?_); conv => whnf)))
      rename_i e5 ac0 cc0 hc0 hd2 e6 ac cc hcc hac
      unfold newW newS newC
      rw [Int.mul_comm w.q 4]
      exact Exs.of (((aw, cw), (sa2, cs), (ac, cc)) : Row3) (by (try dsimp only); (refine FEnt.ent ?_; (repeat (first | exact FEnt.rfl | (refine FEnt.at 0 rfl ?_; (try simp only [List.eraseIdx_cons_zero, List.eraseIdx_cons_succ, List.eraseIdx_zero, List.tail_cons])) | (refine FEnt.at 3 rfl ?_; (try simp only [List.eraseIdx_cons_zero, List.eraseIdx_cons_succ, List.eraseIdx_zero, List.tail_cons])) | (refine FEnt.at 4 rfl ?_; (try simp only [List.eraseIdx_cons_zero, List.eraseIdx_cons_succ, List.eraseIdx_zero, List.tail_cons])) | refine FEnt.drop ?_)); done)) ⟨⟨hcw, haw⟩, ⟨hcs, has⟩, ⟨hcc, hac⟩⟩ rfl
  · rw [if_neg hs] at g2
    subst g2
    clear g1 g3 g4 g5 g6 hR hw
    refine con_of Try.tysOk Try.func17 rfl rfl ?_
    conv => whnf
    repeat' (first
      | ((with_reducible refine Br.df ?_ ?_); (focus (first | assumption | omega)); conv => whnf)
      | ((with_reducible refine Ar.i64 ?_ ?_); (focus omega); conv => whnf)
      | ((with_reducible refine Nd.mk ?_ ?_); (focus (first | omega | rfl | assumption | (simp; done))); conv => whnf)
      | ((with_reducible refine Nc.go' (fun _ => ?_)); conv => whnf)
      | (first | (refine Ld.at 5 rfl rfl ?_; conv => whnf) | (refine Ld.at 6 rfl rfl ?_; conv => whnf))
      | (refine LdN.at 2 rfl (by first | exact Nat.le_of_ble_eq_true rfl | (simp; done)) ?_; conv => whnf)
      | (first | ((with_reducible refine (?_ : Cl _ 43 _ _ _ _)); (refine Cl.exs (htk _ (by ((repeat (first | assumption | apply Rd.cons)); done)) (by ((repeat (first | assumption | apply Rd.cons)); done)) (by ((repeat (first | assumption | apply Rd.cons)); done))) ?_; rintro ⟨⟨a2, c2⟩, ⟨a3, c3⟩, ⟨a4, c4⟩, ⟨a5, c5⟩⟩ ⟨⟨p1, p2⟩, ⟨p3, p4⟩, ⟨p5, p6⟩, ⟨p7, p8⟩⟩; dsimp only at p1 p2 p3 p4 p5 p6 p7 p8); conv => whnf) | ((with_reducible refine (?_ : Cl _ 15 _ _ _ _)); (first | refine Cl.is (gB _ _ _ (by ((repeat ((refine Rd.own 0 rfl ?_); (assumption))); done))) ?_ | refine Cl.is (gP _ _ _ (by ((repeat ((refine Rd.own 2 rfl ?_); (assumption))); done))) ?_ | refine Cl.is (gS _ _ _ (by ((repeat ((refine Rd.own 3 rfl ?_); (assumption))); done))) ?_); conv => whnf)))
    rename_i bc bw br
    conv => whnf
    refine Lp.by Try.tysOk [15] (fun (k : Nat) => [.int .i64 k]) (fun k => ptc br 34 [n64 0, .slice none 0 0, .slice none 0 0, .slice none 0 0] :: ptc bw 25 (wsE.e w) :: ptc bc 34 (cfC C) :: L) (fun k => k ≤ C.ws.length ∧ ∀ i, i < k → ¬ shortW C.xs.length (C.ws.getD i slE.d)) (fun k => C.ws.length - k) (0) (by kernel_rfl) (by (refine FEnt.ent ?_; (repeat (first | exact FEnt.rfl | (refine FEnt.at 4 rfl ?_; (try simp only [List.eraseIdx_cons_zero, List.eraseIdx_cons_succ, List.eraseIdx_zero, List.tail_cons])) | refine FEnt.drop ?_)); done)) (⟨by omega, fun i hi => by omega⟩) ?_
    rintro k ⟨u1, u2⟩
    conv => whnf
    repeat (intro _; conv => whnf)
    by_cases hk : k < C.ws.length
    · have hns : ¬ shortW C.xs.length (C.ws.getD k slE.d) := fun h => hss ⟨k, hk, h⟩
      have hwk := hwn k hk
      have hnw : ¬ ((C.ws.getD k slE.d).1 = 0 ∧ (C.ws.getD k slE.d).2.2 - (C.ws.getD k slE.d).2.1 < 2 * (C.xs.length : Int) + 2) := fun h => hns ⟨h.1, by omega⟩
      clear hwn
      conv => whnf
      repeat' (first
        | (first | ((with_reducible refine Br.tt ?_); conv => whnf) | ((with_reducible refine Br.ff ?_); conv => whnf) | ((with_reducible refine Br.dt ?_ ?_); (focus (first | assumption | omega)); conv => whnf) | ((with_reducible refine Br.df ?_ ?_); (focus (first | assumption | omega)); conv => whnf))
        | ((with_reducible refine Ar.i64 ?_ ?_); (focus omega); conv => whnf)
        | ((with_reducible refine Ix.ad ?_ ?_ ?_); (focus (exact Rd.ad (by assumption))); (focus (omega)); conv => whnf)
        | (first | ((first | (with_reducible apply Ld.rdk) | (with_reducible apply Ld.rdk0)); (focus ((repeat (first | assumption | apply Rd.cons)); done)); (focus rfl); (focus (omega)); (focus rfl); conv => whnf) | (refine Ld.at 2 rfl rfl ?_; conv => whnf))
        | ((with_reducible refine Dr.by (id := 12) Try.tysOk rfl [(0, 0), (2, 0), (1, 1), (3, 0), (4, 0), (5, 1), (6, 0), (7, 0), (8, 0), (10, 0), (14, 0), (16, 0), (21, 0), (22, 0), (23, 0), (9, 1), (11, 0), (12, 0), (13, 1), (15, 1), (17, 0), (18, 0), (19, 1), (20, 0), (24, 0), (25, 0)] ?_ ?_); (focus kernel_rfl); conv => whnf)
        | ((with_reducible refine Br.ds (fun _ => ?_) (fun _ => ?_) ) <;> (conv => whnf)))
      all_goals first | exact ⟨k + 1, by kernel_rfl, by (exact Ent.rfl), ⟨by omega, lt_step u2 hns⟩, by omega⟩ | (exfalso; omega)
    · clear hwn u2 hss
      conv => whnf
      repeat' (first
        | (first | ((with_reducible refine Br.ff ?_); conv => whnf) | ((with_reducible refine Br.df ?_ ?_); (focus (first | assumption | omega)); conv => whnf))
        | ((with_reducible refine Nd.mk ?_ ?_); (focus (first | omega | rfl | assumption | (simp; done))); conv => whnf)
        | ((with_reducible refine Nc.go' (fun _ => ?_)); conv => whnf)
        | (refine Ld.at 2 rfl rfl ?_; conv => whnf)
        | (refine St.at 0 rfl (by first | exact Nat.le_of_ble_eq_true rfl | (simp; done)) rfl ?_; conv => whnf))
      rename_i bd
      conv => whnf
      refine Dr.fr (id := 17) Try.tysOk rfl [(1, 0), (4, 0), (5, 0), (6, 0), (7, 0), (8, 0), (2, 1), (9, 1), (10, 0), (11, 0), (0, 2), (3, 5), (12, 2), (13, 5), (14, 0), (15, 5)] ([ptc bd 34 [n64 C.F, .slice none 0 0, .slice none 0 0, .slice none 0 0]]) (ptc br 34 [n64 0, .slice none 0 0, .slice none 0 0, .slice none 0 0] :: ptc bw 25 (wsE.e w) :: ptc bc 34 (cfC C) :: L) (by kernel_rfl) (by (exact Ent.rfl)) ?_
      conv => whnf
      conv => whnf
      repeat' (first
        | ((with_reducible refine Ar.i64 ?_ ?_); (focus omega); conv => whnf)
        | ((with_reducible refine Nd.mk ?_ ?_); (focus (first | omega | rfl | assumption | (simp; done))); conv => whnf)
        | ((with_reducible refine Nc.go' (fun _ => ?_)); conv => whnf)
        | (first | (refine Ld.at 1 rfl rfl ?_; conv => whnf) | (refine Ld.at 2 rfl rfl ?_; conv => whnf))
        | (refine FS.at 2 rfl (by first | exact Nat.le_of_ble_eq_true rfl | (simp; done)) rfl ?_; conv => whnf)
        | ((with_reducible refine (?_ : SF _ (Builtin.append_ _ _ _) _ _ _)); (first | (((with_reducible apply (SF.appAt (E := slE) (et := 62) Try.tysOk 1)); (focus rfl)); (rotate_left; (focus (exact Rd.ptc 0 rfl [(_, _, _)] rfl)); rotate_right; (focus rfl)); (focus rfl); (focus rfl); (focus rfl); (focus rfl); (focus rfl); (focus rfl); (focus ((simp only [List.length_append, List.length_cons, List.length_nil]); omega)); (intro _ _ _ _); conv => whnf) | (((with_reducible_and_instances apply (SF.appNew (E := slE) (et := 62) Try.tysOk 0)); (focus rfl)); ((focus rfl); (focus ((repeat (first | assumption | apply Rd.cons)); done))); (focus rfl); (focus rfl); (focus rfl); (focus rfl); (focus rfl); (focus (omega)); (intro _ _ _ _); conv => whnf))))
      rename_i e1 aw0 cw0 hw0 hd0 e2 aw cw hcw haw
      conv => whnf
      refine Dr.fr (id := 18) Try.tysOk rfl [(1, 0), (4, 0), (5, 0), (6, 0), (7, 0), (8, 0), (2, 1), (9, 1), (10, 0), (11, 0), (12, 0), (0, 2), (3, 5), (13, 2), (14, 5), (15, 0), (16, 5)] ([ptc bd 34 [n64 C.F, .slice aw (C.ws ++ [((C.xs.length : Int) + 1, rp, rp + w.p)]).length cw, .slice none 0 0, .slice none 0 0]]) (own slE 62 aw cw (C.ws ++ [((C.xs.length : Int) + 1, rp, rp + w.p)]) :: ptc br 34 [n64 0, .slice none 0 0, .slice none 0 0, .slice none 0 0] :: ptc bw 25 (wsE.e w) :: ptc bc 34 (cfC C) :: L) (by kernel_rfl) (by (refine FEnt.ent ?_; (repeat (first | exact FEnt.rfl | (refine FEnt.at 0 rfl ?_; (try simp only [List.eraseIdx_cons_zero, List.eraseIdx_cons_succ, List.eraseIdx_zero, List.tail_cons])) | (refine FEnt.at 1 rfl ?_; (try simp only [List.eraseIdx_cons_zero, List.eraseIdx_cons_succ, List.eraseIdx_zero, List.tail_cons])) | (refine FEnt.at 2 rfl ?_; (try simp only [List.eraseIdx_cons_zero, List.eraseIdx_cons_succ, List.eraseIdx_zero, List.tail_cons])) | refine FEnt.drop ?_)); done)) ?_
      conv => whnf
      conv => whnf
      repeat' (first
        | ((with_reducible refine Ar.i64 ?_ ?_); (focus omega); conv => whnf)
        | ((with_reducible refine Nd.mk ?_ ?_); (focus (first | omega | rfl | assumption | (simp; done))); conv => whnf)
        | ((with_reducible refine Nc.go' (fun _ => ?_)); conv => whnf)
        | (first | (refine Ld.at 2 rfl rfl ?_; conv => whnf) | (refine Ld.at 3 rfl rfl ?_; conv => whnf))
        | (refine FS.at 2 rfl (by first | exact Nat.le_of_ble_eq_true rfl | (simp; done)) rfl ?_; conv => whnf)
        | ((with_reducible refine (?_ : SF _ (Builtin.append_ _ _ _) _ _ _)); (first | (((with_reducible apply (SF.appAt (E := slE) (et := 67) Try.tysOk 1)); (focus rfl)); (rotate_left; (focus (exact Rd.ptc 0 rfl [(_, _, _)] rfl)); rotate_right; (focus rfl)); (focus rfl); (focus rfl); (focus rfl); (focus rfl); (focus rfl); (focus rfl); (focus ((simp only [List.length_append, List.length_cons, List.length_nil]); omega)); (intro _ _ _ _); conv => whnf) | (((with_reducible_and_instances apply (SF.appNew (E := slE) (et := 67) Try.tysOk 0)); (focus rfl)); ((focus rfl); (focus ((repeat (first | assumption | apply Rd.cons)); done))); (focus rfl); (focus rfl); (focus rfl); (focus rfl); (focus rfl); (focus (omega)); (intro _ _ _ _); conv => whnf))))
      rename_i e3 as0 cs0 hs0 hd1 e4 sa2 cs hcs has
      conv => whnf
      refine Dr.fr (id := 19) Try.tysOk rfl [(1, 0), (5, 0), (6, 0), (2, 1), (4, 1), (7, 1), (9, 1), (0, 2), (3, 5), (8, 1), (10, 1), (11, 1), (12, 2), (13, 5), (14, 0), (15, 5)] ([ptc bd 34 [n64 C.F, .slice aw (C.ws ++ [((C.xs.length : Int) + 1, rp, rp + w.p)]).length cw, .slice sa2 (C.ss ++ [((C.xs.length : Int) + 1, rs, rs + 4 * w.q)]).length cs, .slice none 0 0]]) (own slE 67 sa2 cs (C.ss ++ [((C.xs.length : Int) + 1, rs, rs + 4 * w.q)]) :: own slE 62 aw cw (C.ws ++ [((C.xs.length : Int) + 1, rp, rp + w.p)]) :: ptc br 34 [n64 0, .slice none 0 0, .slice none 0 0, .slice none 0 0] :: ptc bw 25 (wsE.e w) :: ptc bc 34 (cfC C) :: L) (by kernel_rfl) (by (refine FEnt.ent ?_; (repeat (first | exact FEnt.rfl | (refine FEnt.at 0 rfl ?_; (try simp only [List.eraseIdx_cons_zero, List.eraseIdx_cons_succ, List.eraseIdx_zero, List.tail_cons])) | (refine FEnt.at 1 rfl ?_; (try simp only [List.eraseIdx_cons_zero, List.eraseIdx_cons_succ, List.eraseIdx_zero, List.tail_cons])) | (refine FEnt.at 2 rfl ?_; (try simp only [List.eraseIdx_cons_zero, List.eraseIdx_cons_succ, List.eraseIdx_zero, List.tail_cons])) | refine FEnt.drop ?_)); done)) ?_
      conv => whnf
      conv => whnf
      repeat' (first
        | ((with_reducible refine Nd.mk ?_ ?_); (focus (first | omega | rfl | assumption | (simp; done))); conv => whnf)
        | ((with_reducible refine Nc.go' (fun _ => ?_)); conv => whnf)
        | (refine Ld.at 4 rfl rfl ?_; conv => whnf)
        | (first | (refine LdN.at 2 rfl (by first | exact Nat.le_of_ble_eq_true rfl | (simp; done)) ?_; conv => whnf) | (refine LdN.at 3 rfl (by first | exact Nat.le_of_ble_eq_true rfl | (simp; done)) ?_; conv => whnf) | (refine LdN.at 4 rfl (by first | exact Nat.le_of_ble_eq_true rfl | (simp; done)) ?_; conv => whnf) | (refine LdN.at 5 rfl (by first | exact Nat.le_of_ble_eq_true rfl | (simp; done)) ?_; conv => whnf))
        | (refine St.at 5 rfl (by first | exact Nat.le_of_ble_eq_true rfl | (simp; done)) rfl ?_; conv => whnf)
        | (refine FS.at 2 rfl (by first | exact Nat.le_of_ble_eq_true rfl | (simp; done)) rfl ?_; conv => whnf)
        | ((with_reducible refine (?_ : SF _ (Builtin.append_ _ _ _) _ _ _)); (first | (((with_reducible apply (SF.appAt (E := clE) (et := 64) Try.tysOk 1)); (focus rfl)); (rotate_left; (focus (exact Rd.ptc 0 rfl [_] rfl)); rotate_right; (focus rfl)); (focus rfl); (focus rfl); (focus rfl); (focus rfl); (focus rfl); (focus rfl); (focus ((simp only [List.length_append, List.length_cons, List.length_nil]); omega)); (intro _ _ _ _); conv => whnf) | (((with_reducible_and_instances apply (SF.appNew (E := clE) (et := 64) Try.tysOk 0)); (focus rfl)); ((focus rfl); (focus ((repeat (first | assumption | apply Rd.cons)); done))); (focus rfl); (focus rfl); (focus rfl); (focus rfl); (focus rfl); (focus (omega)); (intro _ _ _ _); conv => whnf)))
        | (first | ((with_reducible refine CD.is (fun M => hcl _) ?_); conv => whnf) | ((with_reducible refine (?_ : CD _ 44 _ _ _)); (first | refine CD.is (fun M => lm _ (by ((repeat (first | assumption | apply Rd.cons | apply Rd.app)); done))) ?_ | refine CD.is (fun M => lh _ (by ((repeat (first | assumption | apply Rd.cons | apply Rd.app)); done))) ?_); conv => whnf)))
      rename_i e5 ac0 cc0 hc0 hd2 e6 ac cc hcc hac
      unfold newW newS newC
      rw [Int.mul_comm w.q 4]
      exact Exs.of (((aw, cw), (sa2, cs), (ac, cc)) : Row3) (by (try dsimp only); (refine FEnt.ent ?_; (repeat (first | exact FEnt.rfl | (refine FEnt.at 0 rfl ?_; (try simp only [List.eraseIdx_cons_zero, List.eraseIdx_cons_succ, List.eraseIdx_zero, List.tail_cons])) | (refine FEnt.at 3 rfl ?_; (try simp only [List.eraseIdx_cons_zero, List.eraseIdx_cons_succ, List.eraseIdx_zero, List.tail_cons])) | (refine FEnt.at 4 rfl ?_; (try simp only [List.eraseIdx_cons_zero, List.eraseIdx_cons_succ, List.eraseIdx_zero, List.tail_cons])) | refine FEnt.drop ?_)); done)) ⟨⟨hcw, haw⟩, ⟨hcs, has⟩, ⟨hcc, hac⟩⟩ rfl
end Go.Proofs
