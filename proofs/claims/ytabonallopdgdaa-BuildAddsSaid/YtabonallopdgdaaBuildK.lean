/- One client more: the package's: contracts. -/
import Derived.Test.YtabonallopdgdaaBuildI
import Derived.Test.YtabonallopdgdaaConfE
set_option linter.all false
namespace Go.Proofs
open Go.Eng
open Classical
set_option linter.unusedVariables false
set_option maxRecDepth 100000
set_option maxHeartbeats 2000000
abbrev cfV9 : Value := .agg #[n64 0, .slice none 0 0, .slice none 0 0, .slice none 0 0]
/-- where one client more would stand -/
structure AddP (C : Cfg) (w : Wsh) (rb rf rp rs : Int) (nm nh : Nat) : Prop where
  gb : GapR (runF 16384 (fun m => ¬ inS (memT C.xs) m)) 128 w.z rb
  gf : if 0 < w.s then GapR (runF 512 (fun m => ¬ inS (secT C.xs) m)) 0 w.s rf else rf = 0
  gp : GapR (runF C.F (fun m => ¬ inS (spaT C.ws) m)) 0 w.p rp
  gs : GapR (runF C.F (fun m => ¬ inS (spaT C.ss) m)) 0 (w.q * 4) rs
  lm : LeastP (C.xs.map fun x => x.m) nm
  lh : LeastP (C.xs.map fun x => x.h) nh
theorem addP_ex (C : Cfg) (w : Wsh) : ∃ rb rf rp rs nm nh, AddP C w rb rf rp rs nm nh := by
  obtain ⟨rb, h1⟩ := gapR_ex (runF 16384 (fun m => ¬ inS (memT C.xs) m)) 128 w.z
  obtain ⟨rf, h2⟩ := gapR_ex (runF 512 (fun m => ¬ inS (secT C.xs) m)) 0 w.s
  obtain ⟨rp, h3⟩ := gapR_ex (runF C.F (fun m => ¬ inS (spaT C.ws) m)) 0 w.p
  obtain ⟨rs, h4⟩ := gapR_ex (runF C.F (fun m => ¬ inS (spaT C.ss) m)) 0 (w.q * 4)
  obtain ⟨nm, h5, _⟩ := least_ex (C.xs.map fun x => x.m)
  obtain ⟨nh, h6, _⟩ := least_ex (C.xs.map fun x => x.h)
  by_cases hs : 0 < w.s
  · exact ⟨rb, rf, rp, rs, nm, nh, h1, by rw [if_pos hs]; exact h2, h3, h4, h5, h6⟩
  · exact ⟨rb, 0, rp, rs, nm, nh, h1, by rw [if_neg hs], h3, h4, h5, h6⟩
structure AddB (F rb rf rp rs : Int) (nm nh : Nat) : Prop where
  b : -1 ≤ rb ∧ rb ≤ 16384
  f : -1 ≤ rf ∧ rf ≤ 512
  p : -1 ≤ rp ∧ rp ≤ F
  s : -1 ≤ rs ∧ rs ≤ F
  m : nm ≤ 8
  h : nh ≤ 8
theorem gapS_bd {n least size r : Int} {xs : List Sp} (hs : 1 ≤ size) (hl : 0 ≤ least) (h : GapS n least size xs r) : -1 ≤ r ∧ (r ≤ n ∨ r = -1) := by
  rcases h with ⟨h1, h2, _⟩ | ⟨h, _⟩
  · exact ⟨by omega, .inl (by omega)⟩
  · exact ⟨by omega, .inr h⟩
theorem gapR_s {n least size r : Int} {xs : List Sp} (hs : 1 ≤ size) (hl : 0 ≤ least) (h : GapR (runF n (fun m => ¬ inS xs m)) least size r) : GapS n least size xs r := gap_same hs hl runs_ok h
theorem least_le {l : List Int} {n : Nat} (h : LeastP l n) : n ≤ l.length := pigeon _ _ h.all
theorem addP_bd {C : Cfg} {w : Wsh} {rb rf rp rs : Int} {nm nh : Nat} (h : AddP C w rb rf rp rs nm nh) (hw : mayW w) (hF : 1 ≤ C.F) (h8 : C.xs.length ≤ 8) : AddB C.F rb rf rp rs nm nh := by
  obtain ⟨⟨w1, w2, -, -⟩, ⟨w3, w4, -, -⟩, w5, w6, w7, w8⟩ := hw
  have a1 := gapS_bd (by omega) (by omega) (gapR_s (by omega) (by omega) h.gb)
  have a3 := gapS_bd (by omega) (by omega) (gapR_s (by omega) (by omega) h.gp)
  have a4 := gapS_bd (by omega) (by omega) (gapR_s (by omega) (by omega) h.gs)
  have a5 := least_le h.lm
  have a6 := least_le h.lh
  rw [List.length_map] at a5 a6
  have a2 : -1 ≤ rf ∧ rf ≤ 512 := by
    have hg := h.gf
    by_cases hs : 0 < w.s
    · rw [if_pos hs] at hg
      have := gapS_bd (by omega) (by omega) (gapR_s (by omega) (by omega) hg)
      omega
    · rw [if_neg hs] at hg
      omega
  exact ⟨by omega, a2, by omega, by omega, by omega, by omega⟩
abbrev addFull (C : Cfg) (rb rf rp rs : Int) : Prop := shortC C ∨ (rb < 0 ∨ rf < 0 ∨ rp < 0 ∨ rs < 0) ∨ C.ss.length = 32
abbrev newX (w : Wsh) (rb rf : Int) (nm nh : Nat) : Cli := ⟨rb, w.z, w.r, w.z - ringN w.r, w.q, w.u, nm, nh, rf, w.s⟩
def newW (C : Cfg) (w : Wsh) (rp : Int) : List Slt := C.ws ++ [((C.xs.length : Int) + 1, rp, rp + w.p)]
def newS (C : Cfg) (w : Wsh) (rs : Int) : List Slt := C.ss ++ [((C.xs.length : Int) + 1, rs, rs + w.q * 4)]
def newC (C : Cfg) (w : Wsh) (rb rf : Int) (nm nh : Nat) : List Cli := C.xs ++ [newX w rb rf nm nh]
abbrev Row3 := (Option Addr × Nat) × (Option Addr × Nat) × (Option Addr × Nat)
theorem Try.bldAddFit (C : Cfg) (w : Wsh) (L : List HP) (hB : CfB C) (hR : ¬ Right C) (h1 : Rd slE L C.wa C.ws) (h2 : Rd slE L C.sa C.ss) (h3 : Rd clE L C.ca C.xs) :
    Con Try.prog 16 [cfV C, wsV w] L (Is (.tuple #[cfV9, n64 11]) L) := by
  have hck := fun L h1 h2 h3 => Con.df hR (Try.confCheck C L hB h1 h2 h3)
  refine con_of Try.tysOk Try.func16 rfl rfl ?_
  conv => whnf
  repeat' (first
    | ((with_reducible refine Br.nf ?_); conv => whnf)
    | ((with_reducible refine Nd.mk ?_ ?_); (focus (first | omega | rfl | assumption | (simp; done))); conv => whnf)
    | ((with_reducible refine Nc.go' (fun _ => ?_)); conv => whnf)
    | (first | (refine LdN.at 0 rfl (by first | exact Nat.le_of_ble_eq_true rfl | (simp; done)) ?_; conv => whnf) | (refine LdN.at 2 rfl (by first | exact Nat.le_of_ble_eq_true rfl | (simp; done)) ?_; conv => whnf))
    | (refine St.at 0 rfl (by first | exact Nat.le_of_ble_eq_true rfl | (simp; done)) rfl ?_; conv => whnf)
    | ((with_reducible refine Cl.is (hck _ (by ((repeat (first | assumption | apply Rd.cons)); done)) (by ((repeat (first | assumption | apply Rd.cons)); done)) (by ((repeat (first | assumption | apply Rd.cons)); done))) ?_); conv => whnf))
  all_goals (refine Is.ent ?_ ?_; (focus (refine FEnt.ent ?_; (repeat (first | exact FEnt.rfl | refine FEnt.drop ?_)); done)); (exact Is.rfl))
theorem Try.bldAddLim (C : Cfg) (w : Wsh) (L : List HP) (hB : CfB C) (hR : Right C) (h8 : C.xs.length = 8) (h1 : Rd slE L C.wa C.ws) (h2 : Rd slE L C.sa C.ss) (h3 : Rd clE L C.ca C.xs) :
    Con Try.prog 16 [cfV C, wsV w] L (Is (.tuple #[cfV9, n64 4]) L) := by
  have hck := fun L h1 h2 h3 => Con.dt hR (Try.confCheck C L hB h1 h2 h3)
  refine con_of Try.tysOk Try.func16 rfl rfl ?_
  conv => whnf
  repeat' (first
    | (first | ((with_reducible refine Br.nt ?_); conv => whnf) | ((with_reducible refine Br.dt ?_ ?_); (focus (first | assumption | omega)); conv => whnf))
    | ((with_reducible refine Nd.mk ?_ ?_); (focus (first | omega | rfl | assumption | (simp; done))); conv => whnf)
    | ((with_reducible refine Nc.go' (fun _ => ?_)); conv => whnf)
    | (refine Ld.at 2 rfl rfl ?_; conv => whnf)
    | (first | (refine LdN.at 0 rfl (by first | exact Nat.le_of_ble_eq_true rfl | (simp; done)) ?_; conv => whnf) | (refine LdN.at 2 rfl (by first | exact Nat.le_of_ble_eq_true rfl | (simp; done)) ?_; conv => whnf))
    | (refine St.at 0 rfl (by first | exact Nat.le_of_ble_eq_true rfl | (simp; done)) rfl ?_; conv => whnf)
    | ((with_reducible refine Cl.is (hck _ (by ((repeat (first | assumption | apply Rd.cons)); done)) (by ((repeat (first | assumption | apply Rd.cons)); done)) (by ((repeat (first | assumption | apply Rd.cons)); done))) ?_); conv => whnf))
  all_goals (refine Is.ent ?_ ?_; (focus (refine FEnt.ent ?_; (repeat (first | exact FEnt.rfl | refine FEnt.drop ?_)); done)); (exact Is.rfl))
theorem Try.bldAddArg (C : Cfg) (w : Wsh) (L : List HP) (hB : CfB C) (hR : Right C) (h8 : ¬ C.xs.length = 8) (hw : ¬ mayW w) (h1 : Rd slE L C.wa C.ws) (h2 : Rd slE L C.sa C.ss) (h3 : Rd clE L C.ca C.xs) :
    Con Try.prog 16 [cfV C, wsV w] L (Is (.tuple #[cfV9, n64 2]) L) := by
  have hck := fun L h1 h2 h3 => Con.dt hR (Try.confCheck C L hB h1 h2 h3)
  have hm := fun L => Con.df hw (Try.bldMay w L)
  refine con_of Try.tysOk Try.func16 rfl rfl ?_
  conv => whnf
  repeat' (first
    | (first | ((with_reducible refine Br.nt ?_); conv => whnf) | ((with_reducible refine Br.nf ?_); conv => whnf) | ((with_reducible refine Br.df ?_ ?_); (focus (first | assumption | omega)); conv => whnf))
    | ((with_reducible refine Nd.mk ?_ ?_); (focus (first | omega | rfl | assumption | (simp; done))); conv => whnf)
    | ((with_reducible refine Nc.go' (fun _ => ?_)); conv => whnf)
    | (refine Ld.at 2 rfl rfl ?_; conv => whnf)
    | (first | (refine LdN.at 0 rfl (by first | exact Nat.le_of_ble_eq_true rfl | (simp; done)) ?_; conv => whnf) | (refine LdN.at 1 rfl (by first | exact Nat.le_of_ble_eq_true rfl | (simp; done)) ?_; conv => whnf) | (refine LdN.at 2 rfl (by first | exact Nat.le_of_ble_eq_true rfl | (simp; done)) ?_; conv => whnf))
    | (refine St.at 0 rfl (by first | exact Nat.le_of_ble_eq_true rfl | (simp; done)) rfl ?_; conv => whnf)
    | (first | ((with_reducible refine Cl.is (hck _ (by ((repeat (first | assumption | apply Rd.cons)); done)) (by ((repeat (first | assumption | apply Rd.cons)); done)) (by ((repeat (first | assumption | apply Rd.cons)); done))) ?_); conv => whnf) | ((with_reducible refine Cl.is (hm _) ?_); conv => whnf)))
  all_goals (refine Is.ent ?_ ?_; (focus (refine FEnt.ent ?_; (repeat (first | exact FEnt.rfl | refine FEnt.drop ?_)); done)); (exact Is.rfl))
theorem Try.bldAddFull (C : Cfg) (w : Wsh) (rb rf rp rs : Int) (nm nh : Nat) (L : List HP) (hB : CfB C) (hR : Right C) (h8 : ¬ C.xs.length = 8) (hw : mayW w) (hA : AddP C w rb rf rp rs nm nh) (hfu : addFull C rb rf rp rs) (h1 : Rd slE L C.wa C.ws) (h2 : Rd slE L C.sa C.ss) (h3 : Rd clE L C.ca C.xs) :
    Con Try.prog 16 [cfV C, wsV w] L (Is (.tuple #[cfV9, n64 8]) L) := by
  have hck := fun L h1 h2 h3 => Con.dt hR (Try.confCheck C L hB h1 h2 h3)
  have hm := fun L => Con.dt hw (Try.bldMay w L)
  have htk := fun L h1 h2 h3 => Try.bldTaken C L (right_s hR) h1 h2 h3
  have hcl := fun L => Try.bldClient w L hw
  have hbu := fun L => Try.bldBus w L hw
  have hsh := fun L h1 => Try.bldShort C L hR h1
  have hf := hR.f
  have hbd := addP_bd hA hw (by omega) (by omega)
  obtain ⟨g1, g2, g3, g4, -, -⟩ := hA
  obtain ⟨d1, d2, d3, d4, d5, d6⟩ := hbd
  have hwb : (32 ≤ w.z ∧ w.z ≤ 1024) ∧ (1 ≤ w.q ∧ w.q ≤ 16) ∧ (0 ≤ w.s ∧ w.s ≤ 64) ∧ (1 ≤ w.p ∧ w.p ≤ 4096) := by
    obtain ⟨⟨w1, w2, -, -⟩, ⟨w3, w4, -, -⟩, w5, w6, w7, w8⟩ := hw
    omega
  have l1 := memT_len C.xs
  have l2 := secT_len C.xs
  have l3 := spaT_len C.ws
  have l4 := spaT_len C.ss
  have gB := fun a c L h => Try.buildGap 16384 128 w.z rb a c (memT C.xs) L (by omega) (by omega) (by omega) h g1
  have gP := fun a c L h => Try.buildGap C.F 0 w.p rp a c (spaT C.ws) L (by omega) (by omega) (by omega) h g3
  have gS := fun a c L h => Try.buildGap C.F 0 (w.q * 4) rs a c (spaT C.ss) L (by omega) (by omega) (by omega) h g4
  by_cases hs : 0 < w.s
  · rw [if_pos hs] at g2
    have gF := fun a c L h => Try.buildGap 512 0 w.s rf a c (secT C.xs) L (by omega) (by omega) (by omega) h g2
    clear g1 g2 g3 g4 hR hw hB
    by_cases hss : shortC C
    · have hsh := fun L h1 => Con.dt hss (hsh L h1)
      clear hfu hss
      refine con_of Try.tysOk Try.func16 rfl rfl ?_
      conv => whnf
      repeat' (first
        | (first | ((with_reducible refine Br.tt ?_); conv => whnf) | ((with_reducible refine Br.nt ?_); conv => whnf) | ((with_reducible refine Br.dt ?_ ?_); (focus (first | assumption | omega)); conv => whnf) | ((with_reducible refine Br.df ?_ ?_); (focus (first | assumption | omega)); conv => whnf))
        | ((with_reducible refine Nd.mk ?_ ?_); (focus (first | omega | rfl | assumption | (simp; done))); conv => whnf)
        | ((with_reducible refine Nc.go' (fun _ => ?_)); conv => whnf)
        | (first | (refine Ld.at 2 rfl rfl ?_; conv => whnf) | (refine Ld.at 6 rfl rfl ?_; conv => whnf) | (refine Ld.at 7 rfl rfl ?_; conv => whnf))
        | (first | (refine LdN.at 1 rfl (by first | exact Nat.le_of_ble_eq_true rfl | (simp; done)) ?_; conv => whnf) | (refine LdN.at 2 rfl (by first | exact Nat.le_of_ble_eq_true rfl | (simp; done)) ?_; conv => whnf) | (refine LdN.at 5 rfl (by first | exact Nat.le_of_ble_eq_true rfl | (simp; done)) ?_; conv => whnf) | (refine LdN.at 6 rfl (by first | exact Nat.le_of_ble_eq_true rfl | (simp; done)) ?_; conv => whnf) | (refine LdN.at 7 rfl (by first | exact Nat.le_of_ble_eq_true rfl | (simp; done)) ?_; conv => whnf))
        | (first | (refine St.at 0 rfl (by first | exact Nat.le_of_ble_eq_true rfl | (simp; done)) rfl ?_; conv => whnf) | (refine St.at 5 rfl (by first | exact Nat.le_of_ble_eq_true rfl | (simp; done)) rfl ?_; conv => whnf))
        | ((with_reducible refine Dr.by (id := 12) Try.tysOk rfl [(0, 0), (2, 0), (4, 0), (6, 0), (10, 0), (1, 1), (3, 1), (5, 1), (7, 1), (8, 1), (9, 1), (11, 1), (12, 0), (13, 0)] ?_ ?_); (focus kernel_rfl); conv => whnf)
        | (first | ((with_reducible refine CD.is (fun M => hbu _) ?_); conv => whnf) | ((with_reducible refine (?_ : CD _ 14 _ _ _)); (first | refine CD.is (fun M => gP _ _ _ (by ((repeat (first | ((refine Rd.own 3 rfl ?_); (assumption)) | apply Rd.app)); done))) ?_ | refine CD.is (fun M => gS _ _ _ (by ((repeat (first | ((refine Rd.own 4 rfl ?_); (assumption)) | apply Rd.app)); done))) ?_); conv => whnf))
        | (first | ((with_reducible refine Cl.is (hck _ (by ((repeat (first | assumption | apply Rd.cons)); done)) (by ((repeat (first | assumption | apply Rd.cons)); done)) (by ((repeat (first | assumption | apply Rd.cons)); done))) ?_); conv => whnf) | ((with_reducible refine Cl.is (hm _) ?_); conv => whnf) | ((with_reducible refine (?_ : Cl _ 35 _ _ _ _)); (refine Cl.exs (htk _ (by ((repeat (first | assumption | apply Rd.cons)); done)) (by ((repeat (first | assumption | apply Rd.cons)); done)) (by ((repeat (first | assumption | apply Rd.cons)); done))) ?_; rintro ⟨⟨a2, c2⟩, ⟨a3, c3⟩, ⟨a4, c4⟩, ⟨a5, c5⟩⟩ ⟨⟨p1, p2⟩, ⟨p3, p4⟩, ⟨p5, p6⟩, ⟨p7, p8⟩⟩; dsimp only at p1 p2 p3 p4 p5 p6 p7 p8); conv => whnf) | ((with_reducible refine Cl.is (hcl _) ?_); conv => whnf) | ((with_reducible refine (?_ : Cl _ 14 _ _ _ _)); (first | refine Cl.is (gB _ _ _ (by ((repeat ((refine Rd.own 1 rfl ?_); (assumption))); done))) ?_ | refine Cl.is (gF _ _ _ (by ((repeat ((refine Rd.own 2 rfl ?_); (assumption))); done))) ?_); conv => whnf) | ((with_reducible refine Cl.is (hsh _ (by ((repeat (first | assumption | apply Rd.cons)); done))) ?_); conv => whnf)))
      all_goals (refine Is.ent ?_ ?_; (focus (refine FEnt.ent ?_; (repeat (first | exact FEnt.rfl | refine FEnt.drop ?_)); done)); (exact Is.rfl))
    · have hsh := fun L h1 => Con.df hss (hsh L h1)
      have hfu : (rb < 0 ∨ rf < 0 ∨ rp < 0 ∨ rs < 0) ∨ C.ss.length = 32 := hfu.resolve_left hss
      clear hss
      refine con_of Try.tysOk Try.func16 rfl rfl ?_
      conv => whnf
      repeat' (first
        | (first | ((with_reducible refine Br.tt ?_); conv => whnf) | ((with_reducible refine Br.ff ?_); conv => whnf) | ((with_reducible refine Br.nt ?_); conv => whnf) | ((with_reducible refine Br.dt ?_ ?_); (focus (first | assumption | omega)); conv => whnf) | ((with_reducible refine Br.df ?_ ?_); (focus (first | assumption | omega)); conv => whnf))
        | ((with_reducible refine Nd.mk ?_ ?_); (focus (first | omega | rfl | assumption | (simp; done))); conv => whnf)
        | ((with_reducible refine Nc.go' (fun _ => ?_)); conv => whnf)
        | (first | (refine Ld.at 0 rfl rfl ?_; conv => whnf) | (refine Ld.at 2 rfl rfl ?_; conv => whnf) | (refine Ld.at 6 rfl rfl ?_; conv => whnf) | (refine Ld.at 7 rfl rfl ?_; conv => whnf))
        | (first | (refine LdN.at 1 rfl (by first | exact Nat.le_of_ble_eq_true rfl | (simp; done)) ?_; conv => whnf) | (refine LdN.at 2 rfl (by first | exact Nat.le_of_ble_eq_true rfl | (simp; done)) ?_; conv => whnf) | (refine LdN.at 5 rfl (by first | exact Nat.le_of_ble_eq_true rfl | (simp; done)) ?_; conv => whnf) | (refine LdN.at 6 rfl (by first | exact Nat.le_of_ble_eq_true rfl | (simp; done)) ?_; conv => whnf) | (refine LdN.at 7 rfl (by first | exact Nat.le_of_ble_eq_true rfl | (simp; done)) ?_; conv => whnf))
        | (first | (refine St.at 0 rfl (by first | exact Nat.le_of_ble_eq_true rfl | (simp; done)) rfl ?_; conv => whnf) | (refine St.at 5 rfl (by first | exact Nat.le_of_ble_eq_true rfl | (simp; done)) rfl ?_; conv => whnf))
        | ((with_reducible refine Dr.by (id := 12) Try.tysOk rfl [(0, 0), (2, 0), (4, 0), (6, 0), (10, 0), (1, 1), (3, 1), (5, 1), (7, 1), (8, 1), (9, 1), (11, 1), (12, 0), (13, 0)] ?_ ?_); (focus kernel_rfl); conv => whnf)
        | (first | ((with_reducible refine CD.is (fun M => hbu _) ?_); conv => whnf) | ((with_reducible refine (?_ : CD _ 14 _ _ _)); (first | refine CD.is (fun M => gP _ _ _ (by ((repeat (first | ((refine Rd.own 3 rfl ?_); (assumption)) | apply Rd.app)); done))) ?_ | refine CD.is (fun M => gS _ _ _ (by ((repeat (first | ((refine Rd.own 4 rfl ?_); (assumption)) | apply Rd.app)); done))) ?_); conv => whnf))
        | (first | ((with_reducible refine Cl.is (hck _ (by ((repeat (first | assumption | apply Rd.cons)); done)) (by ((repeat (first | assumption | apply Rd.cons)); done)) (by ((repeat (first | assumption | apply Rd.cons)); done))) ?_); conv => whnf) | ((with_reducible refine Cl.is (hm _) ?_); conv => whnf) | ((with_reducible refine (?_ : Cl _ 35 _ _ _ _)); (refine Cl.exs (htk _ (by ((repeat (first | assumption | apply Rd.cons)); done)) (by ((repeat (first | assumption | apply Rd.cons)); done)) (by ((repeat (first | assumption | apply Rd.cons)); done))) ?_; rintro ⟨⟨a2, c2⟩, ⟨a3, c3⟩, ⟨a4, c4⟩, ⟨a5, c5⟩⟩ ⟨⟨p1, p2⟩, ⟨p3, p4⟩, ⟨p5, p6⟩, ⟨p7, p8⟩⟩; dsimp only at p1 p2 p3 p4 p5 p6 p7 p8); conv => whnf) | ((with_reducible refine Cl.is (hcl _) ?_); conv => whnf) | ((with_reducible refine (?_ : Cl _ 14 _ _ _ _)); (first | refine Cl.is (gB _ _ _ (by ((repeat ((refine Rd.own 1 rfl ?_); (assumption))); done))) ?_ | refine Cl.is (gF _ _ _ (by ((repeat ((refine Rd.own 2 rfl ?_); (assumption))); done))) ?_); conv => whnf) | ((with_reducible refine Cl.is (hsh _ (by ((repeat (first | assumption | apply Rd.cons)); done))) ?_); conv => whnf))
        | ((with_reducible refine Br.ds (fun _ => ?_) (fun _ => ?_) ) <;> (conv => whnf)))
      all_goals first | (refine Is.ent ?_ ?_; (focus (refine FEnt.ent ?_; (repeat (first | exact FEnt.rfl | refine FEnt.drop ?_)); done)); (exact Is.rfl)) | (exfalso; omega)
  · rw [if_neg hs] at g2
    subst g2
    clear g1 g3 g4 hR hw hB
    by_cases hss : shortC C
    · have hsh := fun L h1 => Con.dt hss (hsh L h1)
      clear hfu hss
      refine con_of Try.tysOk Try.func16 rfl rfl ?_
      conv => whnf
      repeat' (first
        | (first | ((with_reducible refine Br.tt ?_); conv => whnf) | ((with_reducible refine Br.nt ?_); conv => whnf) | ((with_reducible refine Br.df ?_ ?_); (focus (first | assumption | omega)); conv => whnf))
        | ((with_reducible refine Nd.mk ?_ ?_); (focus (first | omega | rfl | assumption | (simp; done))); conv => whnf)
        | ((with_reducible refine Nc.go' (fun _ => ?_)); conv => whnf)
        | (first | (refine Ld.at 2 rfl rfl ?_; conv => whnf) | (refine Ld.at 6 rfl rfl ?_; conv => whnf) | (refine Ld.at 7 rfl rfl ?_; conv => whnf))
        | (first | (refine LdN.at 1 rfl (by first | exact Nat.le_of_ble_eq_true rfl | (simp; done)) ?_; conv => whnf) | (refine LdN.at 2 rfl (by first | exact Nat.le_of_ble_eq_true rfl | (simp; done)) ?_; conv => whnf) | (refine LdN.at 5 rfl (by first | exact Nat.le_of_ble_eq_true rfl | (simp; done)) ?_; conv => whnf) | (refine LdN.at 6 rfl (by first | exact Nat.le_of_ble_eq_true rfl | (simp; done)) ?_; conv => whnf) | (refine LdN.at 7 rfl (by first | exact Nat.le_of_ble_eq_true rfl | (simp; done)) ?_; conv => whnf))
        | (first | (refine St.at 0 rfl (by first | exact Nat.le_of_ble_eq_true rfl | (simp; done)) rfl ?_; conv => whnf) | (refine St.at 5 rfl (by first | exact Nat.le_of_ble_eq_true rfl | (simp; done)) rfl ?_; conv => whnf))
        | ((with_reducible refine Dr.by (id := 12) Try.tysOk rfl [(0, 0), (2, 0), (4, 0), (6, 0), (10, 0), (1, 1), (3, 1), (5, 1), (7, 1), (8, 1), (9, 1), (11, 1), (12, 0), (13, 0)] ?_ ?_); (focus kernel_rfl); conv => whnf)
        | (first | ((with_reducible refine CD.is (fun M => hbu _) ?_); conv => whnf) | ((with_reducible refine (?_ : CD _ 14 _ _ _)); (first | refine CD.is (fun M => gP _ _ _ (by ((repeat (first | ((refine Rd.own 3 rfl ?_); (assumption)) | apply Rd.app)); done))) ?_ | refine CD.is (fun M => gS _ _ _ (by ((repeat (first | ((refine Rd.own 4 rfl ?_); (assumption)) | apply Rd.app)); done))) ?_); conv => whnf))
        | (first | ((with_reducible refine Cl.is (hck _ (by ((repeat (first | assumption | apply Rd.cons)); done)) (by ((repeat (first | assumption | apply Rd.cons)); done)) (by ((repeat (first | assumption | apply Rd.cons)); done))) ?_); conv => whnf) | ((with_reducible refine Cl.is (hm _) ?_); conv => whnf) | ((with_reducible refine (?_ : Cl _ 35 _ _ _ _)); (refine Cl.exs (htk _ (by ((repeat (first | assumption | apply Rd.cons)); done)) (by ((repeat (first | assumption | apply Rd.cons)); done)) (by ((repeat (first | assumption | apply Rd.cons)); done))) ?_; rintro ⟨⟨a2, c2⟩, ⟨a3, c3⟩, ⟨a4, c4⟩, ⟨a5, c5⟩⟩ ⟨⟨p1, p2⟩, ⟨p3, p4⟩, ⟨p5, p6⟩, ⟨p7, p8⟩⟩; dsimp only at p1 p2 p3 p4 p5 p6 p7 p8); conv => whnf) | ((with_reducible refine Cl.is (hcl _) ?_); conv => whnf) | ((with_reducible refine (?_ : Cl _ 14 _ _ _ _)); (refine Cl.is (gB _ _ _ (by ((repeat ((refine Rd.own 1 rfl ?_); (assumption))); done))) ?_); conv => whnf) | ((with_reducible refine Cl.is (hsh _ (by ((repeat (first | assumption | apply Rd.cons)); done))) ?_); conv => whnf)))
      all_goals (refine Is.ent ?_ ?_; (focus (refine FEnt.ent ?_; (repeat (first | exact FEnt.rfl | refine FEnt.drop ?_)); done)); (exact Is.rfl))
    · have hsh := fun L h1 => Con.df hss (hsh L h1)
      have hfu : (rb < 0 ∨ (0 : Int) < 0 ∨ rp < 0 ∨ rs < 0) ∨ C.ss.length = 32 := hfu.resolve_left hss
      clear hss
      refine con_of Try.tysOk Try.func16 rfl rfl ?_
      conv => whnf
      repeat' (first
        | (first | ((with_reducible refine Br.tt ?_); conv => whnf) | ((with_reducible refine Br.ff ?_); conv => whnf) | ((with_reducible refine Br.nt ?_); conv => whnf) | ((with_reducible refine Br.dt ?_ ?_); (focus (first | assumption | omega)); conv => whnf) | ((with_reducible refine Br.df ?_ ?_); (focus (first | assumption | omega)); conv => whnf))
        | ((with_reducible refine Nd.mk ?_ ?_); (focus (first | omega | rfl | assumption | (simp; done))); conv => whnf)
        | ((with_reducible refine Nc.go' (fun _ => ?_)); conv => whnf)
        | (first | (refine Ld.at 0 rfl rfl ?_; conv => whnf) | (refine Ld.at 2 rfl rfl ?_; conv => whnf) | (refine Ld.at 6 rfl rfl ?_; conv => whnf) | (refine Ld.at 7 rfl rfl ?_; conv => whnf))
        | (first | (refine LdN.at 1 rfl (by first | exact Nat.le_of_ble_eq_true rfl | (simp; done)) ?_; conv => whnf) | (refine LdN.at 2 rfl (by first | exact Nat.le_of_ble_eq_true rfl | (simp; done)) ?_; conv => whnf) | (refine LdN.at 5 rfl (by first | exact Nat.le_of_ble_eq_true rfl | (simp; done)) ?_; conv => whnf) | (refine LdN.at 6 rfl (by first | exact Nat.le_of_ble_eq_true rfl | (simp; done)) ?_; conv => whnf) | (refine LdN.at 7 rfl (by first | exact Nat.le_of_ble_eq_true rfl | (simp; done)) ?_; conv => whnf))
        | (first | (refine St.at 0 rfl (by first | exact Nat.le_of_ble_eq_true rfl | (simp; done)) rfl ?_; conv => whnf) | (refine St.at 5 rfl (by first | exact Nat.le_of_ble_eq_true rfl | (simp; done)) rfl ?_; conv => whnf))
        | ((with_reducible refine Dr.by (id := 12) Try.tysOk rfl [(0, 0), (2, 0), (4, 0), (6, 0), (10, 0), (1, 1), (3, 1), (5, 1), (7, 1), (8, 1), (9, 1), (11, 1), (12, 0), (13, 0)] ?_ ?_); (focus kernel_rfl); conv => whnf)
        | (first | ((with_reducible refine CD.is (fun M => hbu _) ?_); conv => whnf) | ((with_reducible refine (?_ : CD _ 14 _ _ _)); (first | refine CD.is (fun M => gP _ _ _ (by ((repeat (first | ((refine Rd.own 3 rfl ?_); (assumption)) | apply Rd.app)); done))) ?_ | refine CD.is (fun M => gS _ _ _ (by ((repeat (first | ((refine Rd.own 4 rfl ?_); (assumption)) | apply Rd.app)); done))) ?_); conv => whnf))
        | (first | ((with_reducible refine Cl.is (hck _ (by ((repeat (first | assumption | apply Rd.cons)); done)) (by ((repeat (first | assumption | apply Rd.cons)); done)) (by ((repeat (first | assumption | apply Rd.cons)); done))) ?_); conv => whnf) | ((with_reducible refine Cl.is (hm _) ?_); conv => whnf) | ((with_reducible refine (?_ : Cl _ 35 _ _ _ _)); (refine Cl.exs (htk _ (by ((repeat (first | assumption | apply Rd.cons)); done)) (by ((repeat (first | assumption | apply Rd.cons)); done)) (by ((repeat (first | assumption | apply Rd.cons)); done))) ?_; rintro ⟨⟨a2, c2⟩, ⟨a3, c3⟩, ⟨a4, c4⟩, ⟨a5, c5⟩⟩ ⟨⟨p1, p2⟩, ⟨p3, p4⟩, ⟨p5, p6⟩, ⟨p7, p8⟩⟩; dsimp only at p1 p2 p3 p4 p5 p6 p7 p8); conv => whnf) | ((with_reducible refine Cl.is (hcl _) ?_); conv => whnf) | ((with_reducible refine (?_ : Cl _ 14 _ _ _ _)); (refine Cl.is (gB _ _ _ (by ((repeat ((refine Rd.own 1 rfl ?_); (assumption))); done))) ?_); conv => whnf) | ((with_reducible refine Cl.is (hsh _ (by ((repeat (first | assumption | apply Rd.cons)); done))) ?_); conv => whnf))
        | ((with_reducible refine Br.ds (fun _ => ?_) (fun _ => ?_) ) <;> (conv => whnf)))
      all_goals first | (refine Is.ent ?_ ?_; (focus (refine FEnt.ent ?_; (repeat (first | exact FEnt.rfl | refine FEnt.drop ?_)); done)); (exact Is.rfl)) | (exfalso; omega)
end Go.Proofs
