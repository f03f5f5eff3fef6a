/- The assembler's instructions: contracts. -/
import Derived.Test.YtloaknocdnpedaaDoorAsmH
set_option linter.all false
namespace Go.Proofs
open Go.Eng Go.RowKit Go.MapKept
open Classical
set_option linter.unusedVariables false
set_option maxRecDepth 100000
set_option maxHeartbeats 4000000
theorem ltr_num {w : ByteArray} (h : Ltrs w) (m : Int) : numA w m = -1 := by
  unfold numA
  rw [if_neg]
  rintro ⟨h1, _⟩
  have h2 := h.all 0 (by have := h.ge; omega)
  have h3 := h1.dig 0 (by have := h.ge; omega)
  have h4 := h2.1
  have h5 := h3.2
  omega
theorem zero_val (l : Ln) : valF l zeroB = ⟨l.lab, l.nums ++ [0], l.szs ++ [2], l.nam, l.bad⟩ := by
  have hz : ¬ Ltrs zeroB := fun h => by have := (h.all 0 (by decide)).1; revert this; decide
  have hn : numA zeroB 65535 = 0 := by
    unfold numA
    rw [if_pos]
    · decide
    · refine ⟨⟨by decide, by decide, fun h => absurd h (by decide), fun i hi => ?_⟩, by decide⟩
      have : i = 0 := by have : zeroB.size = 1 := rfl
                         omega
      subst this
      decide
  unfold valF
  rw [if_neg hz, hn, show decide ((0 : Int) < 0) = false from rfl, Bool.or_false]
theorem val_cases (l : Ln) (w : ByteArray) : (Ltrs w ∧ valF l w = ⟨l.lab, l.nums ++ [0], l.szs ++ [2], w, l.bad⟩) ∨ (¬ Ltrs w ∧ 0 ≤ numA w 65535 ∧ valF l w = ⟨l.lab, l.nums ++ [numA w 65535], l.szs ++ [2], l.nam, l.bad⟩) ∨ (¬ Ltrs w ∧ ¬ 0 ≤ numA w 65535 ∧ (valF l w).bad = true) := by
  by_cases h : Ltrs w
  · exact .inl ⟨h, if_pos h⟩
  · by_cases hn : 0 ≤ numA w 65535
    · refine .inr (.inl ⟨h, hn, ?_⟩)
      unfold valF
      rw [if_neg h, decide_eq_false (by omega), Bool.or_false]
    · refine .inr (.inr ⟨h, hn, ?_⟩)
      unfold valF
      rw [if_neg h, decide_eq_true (by omega), Bool.or_true]
def addU (X : Aob) (w : ByteArray) (k : Int) : Aob := if w = noB then X else ⟨X.bs, X.labs, X.uses ++ [(w, (X.bs.length : Int) + k, X.line)], X.line⟩
theorem ltr_ne {w : ByteArray} (h : Ltrs w) : w ≠ noB := fun e => by have := h.ge; rw [e] at this; exact absurd this (by decide)
/-- what an instruction is made of -/
inductive InsR (c : Nat) (ws : List ByteArray) : Ln → Prop where
  | none (h : c = 0 ∨ c = 15) (hl : ws.length = 1) : InsR c ws ⟨noB, [(c : Int), 0, 0], [1, 1, 2], noB, false⟩
  | none' (h : c = 0 ∨ c = 15) (hl : ws.length ≠ 1) : InsR c ws badL
  | jmpL (h : c = 11) (hl : ws.length = 2) (hw : Ltrs (wat ws 1)) : InsR c ws ⟨noB, [(c : Int), 0, 0], [1, 1, 2], wat ws 1, false⟩
  | jmpN (h : c = 11) (hl : ws.length = 2) (hw : ¬ Ltrs (wat ws 1)) (hn : 0 ≤ numA (wat ws 1) 65535) : InsR c ws ⟨noB, [(c : Int), 0, numA (wat ws 1) 65535], [1, 1, 2], noB, false⟩
  | jmpB (l : Ln) (h : c = 11) (hl : ws.length = 2) (hw : ¬ Ltrs (wat ws 1)) (hn : ¬ 0 ≤ numA (wat ws 1) 65535) (hb : l.bad = true) : InsR c ws l
  | jmp' (h : c = 11) (hl : ws.length ≠ 2) : InsR c ws badL
  | reg (h : 2 ≤ c ∧ c ≤ 10) (hl : ws.length = 3) (h1 : 0 ≤ regA (wat ws 1)) (h2 : 0 ≤ regA (wat ws 2)) : InsR c ws ⟨noB, [(c : Int), regA (wat ws 1), regA (wat ws 2)], [1, 1, 2], noB, false⟩
  | regB (l : Ln) (h : 2 ≤ c ∧ c ≤ 10) (hl : ws.length = 3) (h1 : ¬ 0 ≤ regA (wat ws 1)) (hb : l.bad = true) : InsR c ws l
  | regC (l : Ln) (h : 2 ≤ c ∧ c ≤ 10) (hl : ws.length = 3) (h1 : 0 ≤ regA (wat ws 1)) (h2 : ¬ 0 ≤ regA (wat ws 2)) (hb : l.bad = true) : InsR c ws l
  | call (h : c = 14) (hl : ws.length = 3) (h1 : 0 ≤ regA (wat ws 1)) (h2 : 0 ≤ numA (wat ws 2) 65535) : InsR c ws ⟨noB, [(c : Int), regA (wat ws 1), numA (wat ws 2) 65535], [1, 1, 2], noB, false⟩
  | callB (l : Ln) (h : c = 14) (hl : ws.length = 3) (h1 : ¬ 0 ≤ regA (wat ws 1)) (hb : l.bad = true) : InsR c ws l
  | callC (l : Ln) (h : c = 14) (hl : ws.length = 3) (h1 : 0 ≤ regA (wat ws 1)) (h2 : ¬ 0 ≤ numA (wat ws 2) 65535) (hb : l.bad = true) : InsR c ws l
  | valL (h : c = 1 ∨ c = 12 ∨ c = 13) (hl : ws.length = 3) (h1 : 0 ≤ regA (wat ws 1)) (hw : Ltrs (wat ws 2)) : InsR c ws ⟨noB, [(c : Int), regA (wat ws 1), 0], [1, 1, 2], wat ws 2, false⟩
  | valN (h : c = 1 ∨ c = 12 ∨ c = 13) (hl : ws.length = 3) (h1 : 0 ≤ regA (wat ws 1)) (hw : ¬ Ltrs (wat ws 2)) (hn : 0 ≤ numA (wat ws 2) 65535) : InsR c ws ⟨noB, [(c : Int), regA (wat ws 1), numA (wat ws 2) 65535], [1, 1, 2], noB, false⟩
  | valB (l : Ln) (h : c = 1 ∨ c = 12 ∨ c = 13) (hl : ws.length = 3) (h1 : ¬ 0 ≤ regA (wat ws 1)) (hb : l.bad = true) : InsR c ws l
  | valC (l : Ln) (h : c = 1 ∨ c = 12 ∨ c = 13) (hl : ws.length = 3) (h1 : 0 ≤ regA (wat ws 1)) (hw : ¬ Ltrs (wat ws 2)) (hn : ¬ 0 ≤ numA (wat ws 2) 65535) (hb : l.bad = true) : InsR c ws l
  | long (h : 1 ≤ c ∧ c ≤ 14 ∧ c ≠ 11) (hl : ws.length ≠ 3) : InsR c ws badL
theorem insR_of {c : Nat} (hc : c < 16) (ws : List ByteArray) : InsR c ws (insF c ws) := by
  unfold insF
  by_cases h0 : c = 0 ∨ c = 15
  · rw [if_pos (by omega)]
    by_cases hl : ws.length = 1
    · rw [if_pos hl, zero_val]; exact .none h0 hl
    · rw [if_neg hl]; exact .none' h0 hl
  · rw [if_neg (by omega)]
    by_cases h11 : c = 11
    · rw [if_pos (by omega)]
      by_cases hl : ws.length = 2
      · rw [if_pos hl]
        rcases val_cases ⟨noB, [(c : Int), 0], [1, 1], noB, false⟩ (wat ws 1) with ⟨h1, h2⟩ | ⟨h1, h2, h3⟩ | ⟨h1, h2, h3⟩
        · rw [h2]; exact .jmpL h11 hl h1
        · rw [h3]; exact .jmpN h11 hl h1 h2
        · exact .jmpB _ h11 hl h1 h2 h3
      · rw [if_neg hl]; exact .jmp' h11 hl
    · rw [if_neg (by omega)]
      by_cases hl : ws.length = 3
      · rw [if_pos hl]
        by_cases hrg : 2 ≤ c ∧ c ≤ 10
        · rw [if_pos (by omega)]
          by_cases h1 : 0 ≤ regA (wat ws 1)
          · by_cases h2 : 0 ≤ regA (wat ws 2)
            · rw [show (decide (regA (wat ws 1) < 0) || decide (regA (wat ws 2) < 0)) = false from by rw [decide_eq_false (by omega), decide_eq_false (by omega)]; rfl]
              exact .reg hrg hl h1 h2
            · exact .regC _ hrg hl h1 h2 (by show (decide _ || decide _) = true; rw [decide_eq_true (show regA (wat ws 2) < 0 by omega), Bool.or_true])
          · exact .regB _ hrg hl h1 (by show (decide _ || decide _) = true; rw [decide_eq_true (show regA (wat ws 1) < 0 by omega)]; rfl)
        · rw [if_neg (by omega)]
          by_cases h14 : c = 14
          · by_cases hlt : Ltrs (wat ws 2)
            · rw [if_pos ⟨by omega, hlt⟩]
              by_cases h1 : 0 ≤ regA (wat ws 1)
              · exact .callC _ h14 hl h1 (by rw [ltr_num hlt]; decide) rfl
              · exact .callB _ h14 hl h1 rfl
            · rw [if_neg (fun h => hlt h.2)]
              by_cases h1 : 0 ≤ regA (wat ws 1)
              · rw [show decide (regA (wat ws 1) < 0) = false from decide_eq_false (by omega)]
                rcases val_cases ⟨noB, [(c : Int), regA (wat ws 1)], [1, 1], noB, false⟩ (wat ws 2) with ⟨h2, h3⟩ | ⟨h2, h3, h4⟩ | ⟨h2, h3, h4⟩
                · exact absurd h2 hlt
                · rw [h4]; exact .call h14 hl h1 h3
                · exact .callC _ h14 hl h1 h3 h4
              · refine .callB _ h14 hl h1 ?_
                unfold valF
                rw [if_neg hlt, decide_eq_true (show regA (wat ws 1) < 0 by omega)]
                rfl
          · rw [if_neg (by omega)]
            have hc3 : c = 1 ∨ c = 12 ∨ c = 13 := by omega
            by_cases h1 : 0 ≤ regA (wat ws 1)
            · rw [show decide (regA (wat ws 1) < 0) = false from decide_eq_false (by omega)]
              rcases val_cases ⟨noB, [(c : Int), regA (wat ws 1)], [1, 1], noB, false⟩ (wat ws 2) with ⟨h2, h3⟩ | ⟨h2, h3, h4⟩ | ⟨h2, h3, h4⟩
              · rw [h3]; exact .valL hc3 hl h1 h2
              · rw [h4]; exact .valN hc3 hl h1 h2 h3
              · exact .valC _ hc3 hl h1 h2 h3 h4
            · refine .valB _ hc3 hl h1 ?_
              rw [show decide (regA (wat ws 1) < 0) = true from decide_eq_true (by omega)]
              unfold valF
              split <;> rfl
      · rw [if_neg hl]; exact .long (by omega) hl
theorem Tryd.asmInstr (o : Nat) (X : Aob) (c : Nat) (l : Ln) (aw : Option Addr) (cw : Nat) (ws : List ByteArray) (w1 w2 : ByteArray) (L : List HP) (hc : c < 16) (hr : Rd strE L aw ws) (hN : ws.length ≤ 100000) (hw1 : ws.getD (Int.toNat 1) strE.d = w1) (hw2 : ws.getD (Int.toNat 2) strE.d = w2) (s1 : w1.size ≤ 1000000) (s2 : w2.size ≤ 1000000)
    (hb : X.bs.length ≤ 1024) (hu : X.uses.length ≤ 100000) (hg : l.bad = false) (hR : InsR c ws l) :
    Con Tryd.prog 72 [p64 o, u8W c, .slice aw ws.length cw] (Tryd.asmH o X :: L) (Is (insV c (l.nums.getD 1 0) (l.nums.getD 2 0)) (Tryd.asmH o (addU X l.nam 2) :: L)) := by
  have hcr := fun L => Tryd.codeRegister (c : Int) L
  have x1 : wat ws 1 = w1 := hw1
  have x2 : wat ws 2 = w2 := hw2
  cases hR
  case none h hl =>
    rcases h with rfl | rfl
    all_goals (
      refine con_of Tryd.tysOk Tryd.func72 rfl rfl ?_
      conv => whnf
      repeat' (first
        | (first | ((with_reducible refine Br.tt ?_); conv => whnf) | ((with_reducible refine Br.ff ?_); conv => whnf) | ((with_reducible refine Br.dt ?_ ?_); (focus (first | assumption | omega)); conv => whnf) | ((with_reducible refine Br.df ?_ ?_); (focus (first | assumption | omega)); conv => whnf))
        | ((with_reducible refine Nd.mk ?_ ?_); (focus (first | omega | rfl | assumption | (simp; done))); conv => whnf)
        | ((with_reducible refine Nc.go' (fun _ => ?_)); conv => whnf)
        | (first | (refine LdN.at 0 rfl (by first | exact Nat.le_of_ble_eq_true rfl | (simp; done)) ?_; conv => whnf) | (refine LdN.at 1 rfl (by first | exact Nat.le_of_ble_eq_true rfl | (simp; done)) ?_; conv => whnf))
        | (first | (refine St.at 0 rfl (by first | exact Nat.le_of_ble_eq_true rfl | (simp; done)) rfl ?_; conv => whnf) | (refine St.at 1 rfl (by first | exact Nat.le_of_ble_eq_true rfl | (simp; done)) rfl ?_; conv => whnf))
        | ((with_reducible refine (?_ : Cl _ 67 _ _ _ _)); (refine Cl.is (Tryd.asmArgs _ _ _ _ _ (by omega) (by omega)) ?_); conv => whnf))
      all_goals first | (exfalso; omega) | (refine Is.ent ?_ ?_; (focus (refine FEnt.ent ?_; (repeat (first | exact FEnt.rfl | (refine FEnt.at 2 rfl ?_; (try simp only [List.eraseIdx_cons_zero, List.eraseIdx_cons_succ, List.eraseIdx_zero, List.tail_cons])) | refine FEnt.drop ?_)); done)); (exact Is.rfl)))
  case jmpL h hl hw =>
    rw [x1] at hw ⊢
    subst h
    have e : addU X w1 2 = ⟨X.bs, X.labs, X.uses ++ [(w1, (X.bs.length : Int) + 2, X.line)], X.line⟩ := if_neg (ltr_ne hw)
    show Con Tryd.prog 72 [p64 o, u8W 11, .slice aw ws.length cw] (Tryd.asmH o X :: L) (Is (insV 11 0 0) (Tryd.asmH o (addU X w1 2) :: L))
    rw [e]
    refine con_of Tryd.tysOk Tryd.func72 rfl rfl ?_
    conv => whnf
    repeat' (first
      | (first | ((with_reducible refine Br.ff ?_); conv => whnf) | ((with_reducible refine Br.dt ?_ ?_); (focus (first | assumption | omega)); conv => whnf) | ((with_reducible refine Br.df ?_ ?_); (focus (first | assumption | omega)); conv => whnf))
      | ((with_reducible refine Nd.mk ?_ ?_); (focus (first | omega | rfl | assumption | (simp; done))); conv => whnf)
      | ((with_reducible refine Nc.go' (fun _ => ?_)); conv => whnf)
      | ((with_reducible refine Ix.ad ?_ ?_ ?_); (focus (exact Rd.ad (by assumption))); (focus (omega)); conv => whnf)
      | ((apply Ld.rd0); (focus ((repeat (first | assumption | apply Rd.cons)); done)); (focus rfl); (focus (omega)); (focus rfl); conv => whnf)
      | (first | (refine LdN.at 0 rfl (by first | exact Nat.le_of_ble_eq_true rfl | (simp; done)) ?_; conv => whnf) | (refine LdN.at 1 rfl (by first | exact Nat.le_of_ble_eq_true rfl | (simp; done)) ?_; conv => whnf))
      | (first | (refine St.at 0 rfl (by first | exact Nat.le_of_ble_eq_true rfl | (simp; done)) rfl ?_; conv => whnf) | (refine St.at 1 rfl (by first | exact Nat.le_of_ble_eq_true rfl | (simp; done)) rfl ?_; conv => whnf))
      | (first | ((with_reducible refine (?_ : Cl _ 67 _ _ _ _)); (refine Cl.is (Tryd.asmArgs _ _ _ _ _ (by omega) (by omega)) ?_); conv => whnf) | ((refine Cl.isAt 2 rfl (Tryd.asmValueN o X w1 2 _ (by omega) hw (by omega) hb hu) ?_); conv => whnf))
      | ((rw [hw1]); conv => whnf))
    all_goals first | (exfalso; omega) | (refine Is.ent ?_ ?_; (focus (refine FEnt.ent ?_; (repeat (first | exact FEnt.rfl | (refine FEnt.at 2 rfl ?_; (try simp only [List.eraseIdx_cons_zero, List.eraseIdx_cons_succ, List.eraseIdx_zero, List.tail_cons])) | refine FEnt.drop ?_)); done)); (exact Is.rfl))
  case jmpN h hl hw hn =>
    rw [x1] at hw hn ⊢
    subst h
    show Con Tryd.prog 72 [p64 o, u8W 11, .slice aw ws.length cw] (Tryd.asmH o X :: L) (Is (insV 11 0 (numA w1 65535)) (Tryd.asmH o X :: L))
    refine con_of Tryd.tysOk Tryd.func72 rfl rfl ?_
    conv => whnf
    repeat' (first
      | (first | ((with_reducible refine Br.ff ?_); conv => whnf) | ((with_reducible refine Br.dt ?_ ?_); (focus (first | assumption | omega)); conv => whnf) | ((with_reducible refine Br.df ?_ ?_); (focus (first | assumption | omega)); conv => whnf))
      | ((with_reducible refine Nd.mk ?_ ?_); (focus (first | omega | rfl | assumption | (simp; done))); conv => whnf)
      | ((with_reducible refine Nc.go' (fun _ => ?_)); conv => whnf)
      | ((with_reducible refine Ix.ad ?_ ?_ ?_); (focus (exact Rd.ad (by assumption))); (focus (omega)); conv => whnf)
      | ((apply Ld.rd0); (focus ((repeat (first | assumption | apply Rd.cons)); done)); (focus rfl); (focus (omega)); (focus rfl); conv => whnf)
      | (first | (refine LdN.at 0 rfl (by first | exact Nat.le_of_ble_eq_true rfl | (simp; done)) ?_; conv => whnf) | (refine LdN.at 1 rfl (by first | exact Nat.le_of_ble_eq_true rfl | (simp; done)) ?_; conv => whnf))
      | (first | (refine St.at 0 rfl (by first | exact Nat.le_of_ble_eq_true rfl | (simp; done)) rfl ?_; conv => whnf) | (refine St.at 1 rfl (by first | exact Nat.le_of_ble_eq_true rfl | (simp; done)) rfl ?_; conv => whnf))
      | (first | ((with_reducible refine (?_ : Cl _ 67 _ _ _ _)); (refine Cl.is (Tryd.asmArgs _ _ _ _ _ (by omega) (by omega)) ?_); conv => whnf) | ((refine Cl.isAt 2 rfl (Tryd.asmValueP o X w1 2 _ (by omega) hw hn) ?_); conv => whnf))
      | ((rw [hw1]); conv => whnf))
    all_goals first | (exfalso; omega) | (refine Is.ent ?_ ?_; (focus (refine FEnt.ent ?_; (repeat (first | exact FEnt.rfl | (refine FEnt.at 2 rfl ?_; (try simp only [List.eraseIdx_cons_zero, List.eraseIdx_cons_succ, List.eraseIdx_zero, List.tail_cons])) | refine FEnt.drop ?_)); done)); (exact Is.rfl))
  case reg h hl h1 h2 =>
    rw [x1] at h1 ⊢
    rw [x2] at h2 ⊢
    have r1 := fun L => Tryd.asmRegister w1 L (by omega) h1
    have r2 := fun L => Tryd.asmRegister w2 L (by omega) h2
    show Con Tryd.prog 72 [p64 o, u8W c, .slice aw ws.length cw] (Tryd.asmH o X :: L) (Is (insV c (regA w1) (regA w2)) (Tryd.asmH o X :: L))
    have hcr := fun L => Con.dt (by omega) (hcr L)
    refine con_of Tryd.tysOk Tryd.func72 rfl rfl ?_
    conv => whnf
    repeat' (first
      | (first | ((with_reducible refine Br.tt ?_); conv => whnf) | ((with_reducible refine Br.ff ?_); conv => whnf) | ((with_reducible refine Br.df ?_ ?_); (focus (first | assumption | omega)); conv => whnf))
      | ((with_reducible refine Nd.mk ?_ ?_); (focus (first | omega | rfl | assumption | (simp; done))); conv => whnf)
      | ((with_reducible refine Nc.go' (fun _ => ?_)); conv => whnf)
      | ((with_reducible refine Ix.ad ?_ ?_ ?_); (focus (exact Rd.ad (by assumption))); (focus (omega)); conv => whnf)
      | ((apply Ld.rd0); (focus ((repeat (first | assumption | apply Rd.cons)); done)); (focus rfl); (focus (omega)); (focus rfl); conv => whnf)
      | (first | (refine LdN.at 0 rfl (by first | exact Nat.le_of_ble_eq_true rfl | (simp; done)) ?_; conv => whnf) | (refine LdN.at 1 rfl (by first | exact Nat.le_of_ble_eq_true rfl | (simp; done)) ?_; conv => whnf))
      | (first | (refine St.at 0 rfl (by first | exact Nat.le_of_ble_eq_true rfl | (simp; done)) rfl ?_; conv => whnf) | (refine St.at 1 rfl (by first | exact Nat.le_of_ble_eq_true rfl | (simp; done)) rfl ?_; conv => whnf))
      | ((with_reducible refine Dr.by (id := 12) Tryd.tysOk rfl [(0, 0), (1, 0), (4, 0), (5, 0), (2, 1), (3, 1), (6, 1), (7, 1), (8, 0), (9, 3), (10, 0), (11, 3)] ?_ ?_); (focus kernel_rfl); conv => whnf)
      | (first | ((with_reducible refine CD.is (fun M => r1 _) ?_); conv => whnf) | ((with_reducible refine CD.is (fun M => r2 _) ?_); conv => whnf))
      | (first | ((with_reducible refine (?_ : Cl _ 67 _ _ _ _)); (refine Cl.is (Tryd.asmArgs _ _ _ _ _ (by omega) (by omega)) ?_); conv => whnf) | ((with_reducible refine Cl.is (hcr _) ?_); conv => whnf))
      | ((rw [hw1]); conv => whnf)
      | ((rw [hw2]); conv => whnf))
    all_goals first | (exfalso; omega) | (refine Is.ent ?_ ?_; (focus (refine FEnt.ent ?_; (repeat (first | exact FEnt.rfl | (refine FEnt.at 2 rfl ?_; (try simp only [List.eraseIdx_cons_zero, List.eraseIdx_cons_succ, List.eraseIdx_zero, List.tail_cons])) | refine FEnt.drop ?_)); done)); (exact Is.rfl))
  case call h hl h1 h2 =>
    rw [x1] at h1 ⊢
    rw [x2] at h2 ⊢
    subst h
    have r1 := fun L => Tryd.asmRegister w1 L (by omega) h1
    have r2 := fun L => Tryd.asmPlain w2 65535 L (by omega) (by omega) h2
    show Con Tryd.prog 72 [p64 o, u8W 14, .slice aw ws.length cw] (Tryd.asmH o X :: L) (Is (insV 14 (regA w1) (numA w2 65535)) (Tryd.asmH o X :: L))
    have hcr := fun L => Con.df (by omega) (hcr L)
    refine con_of Tryd.tysOk Tryd.func72 rfl rfl ?_
    conv => whnf
    repeat' (first
      | (first | ((with_reducible refine Br.ff ?_); conv => whnf) | ((with_reducible refine Br.dt ?_ ?_); (focus (first | assumption | omega)); conv => whnf) | ((with_reducible refine Br.df ?_ ?_); (focus (first | assumption | omega)); conv => whnf))
      | ((with_reducible refine Nd.mk ?_ ?_); (focus (first | omega | rfl | assumption | (simp; done))); conv => whnf)
      | ((with_reducible refine Nc.go' (fun _ => ?_)); conv => whnf)
      | ((with_reducible refine Ix.ad ?_ ?_ ?_); (focus (exact Rd.ad (by assumption))); (focus (omega)); conv => whnf)
      | ((apply Ld.rd0); (focus ((repeat (first | assumption | apply Rd.cons)); done)); (focus rfl); (focus (omega)); (focus rfl); conv => whnf)
      | (first | (refine LdN.at 0 rfl (by first | exact Nat.le_of_ble_eq_true rfl | (simp; done)) ?_; conv => whnf) | (refine LdN.at 1 rfl (by first | exact Nat.le_of_ble_eq_true rfl | (simp; done)) ?_; conv => whnf))
      | (first | (refine St.at 0 rfl (by first | exact Nat.le_of_ble_eq_true rfl | (simp; done)) rfl ?_; conv => whnf) | (refine St.at 1 rfl (by first | exact Nat.le_of_ble_eq_true rfl | (simp; done)) rfl ?_; conv => whnf))
      | ((with_reducible refine Dr.by (id := 15) Tryd.tysOk rfl [(0, 0), (1, 0), (4, 0), (5, 0), (2, 1), (3, 1), (6, 1), (7, 1), (8, 0), (9, 3), (10, 0), (11, 3)] ?_ ?_); (focus kernel_rfl); conv => whnf)
      | (first | ((with_reducible refine CD.is (fun M => r1 _) ?_); conv => whnf) | ((with_reducible refine CD.is (fun M => r2 _) ?_); conv => whnf))
      | (first | ((with_reducible refine (?_ : Cl _ 67 _ _ _ _)); (refine Cl.is (Tryd.asmArgs _ _ _ _ _ (by omega) (by omega)) ?_); conv => whnf) | ((with_reducible refine Cl.is (hcr _) ?_); conv => whnf))
      | ((rw [hw1]); conv => whnf)
      | ((rw [hw2]); conv => whnf))
    all_goals first | (exfalso; omega) | (refine Is.ent ?_ ?_; (focus (refine FEnt.ent ?_; (repeat (first | exact FEnt.rfl | (refine FEnt.at 2 rfl ?_; (try simp only [List.eraseIdx_cons_zero, List.eraseIdx_cons_succ, List.eraseIdx_zero, List.tail_cons])) | refine FEnt.drop ?_)); done)); (exact Is.rfl))
  case valL h hl h1 hw =>
    rw [x1] at h1 ⊢
    rw [x2] at hw ⊢
    have r1 := fun L => Tryd.asmRegister w1 L (by omega) h1
    have e : addU X w2 2 = ⟨X.bs, X.labs, X.uses ++ [(w2, (X.bs.length : Int) + 2, X.line)], X.line⟩ := if_neg (ltr_ne hw)
    show Con Tryd.prog 72 [p64 o, u8W c, .slice aw ws.length cw] (Tryd.asmH o X :: L) (Is (insV c (regA w1) 0) (Tryd.asmH o (addU X w2 2) :: L))
    rw [e]
    have hcc : c ≠ 0 ∧ c ≠ 15 ∧ c ≠ 11 ∧ c ≠ 14 := by omega
    have hcr := fun L => Con.df (by omega) (hcr L)
    refine con_of Tryd.tysOk Tryd.func72 rfl rfl ?_
    conv => whnf
    repeat' (first
      | (first | ((with_reducible refine Br.ff ?_); conv => whnf) | ((with_reducible refine Br.df ?_ ?_); (focus (first | assumption | omega)); conv => whnf))
      | ((with_reducible refine Nd.mk ?_ ?_); (focus (first | omega | rfl | assumption | (simp; done))); conv => whnf)
      | ((with_reducible refine Nc.go' (fun _ => ?_)); conv => whnf)
      | ((with_reducible refine Ix.ad ?_ ?_ ?_); (focus (exact Rd.ad (by assumption))); (focus (omega)); conv => whnf)
      | ((apply Ld.rd0); (focus ((repeat (first | assumption | apply Rd.cons)); done)); (focus rfl); (focus (omega)); (focus rfl); conv => whnf)
      | (first | (refine LdN.at 0 rfl (by first | exact Nat.le_of_ble_eq_true rfl | (simp; done)) ?_; conv => whnf) | (refine LdN.at 1 rfl (by first | exact Nat.le_of_ble_eq_true rfl | (simp; done)) ?_; conv => whnf))
      | (first | (refine St.at 0 rfl (by first | exact Nat.le_of_ble_eq_true rfl | (simp; done)) rfl ?_; conv => whnf) | (refine St.at 1 rfl (by first | exact Nat.le_of_ble_eq_true rfl | (simp; done)) rfl ?_; conv => whnf))
      | (first | ((with_reducible refine (?_ : Cl _ 67 _ _ _ _)); (refine Cl.is (Tryd.asmArgs _ _ _ _ _ (by omega) (by omega)) ?_); conv => whnf) | ((with_reducible refine Cl.is (hcr _) ?_); conv => whnf) | ((with_reducible refine Cl.is (r1 _) ?_); conv => whnf) | ((refine Cl.isAt 2 rfl (Tryd.asmValueN o X w2 2 _ (by omega) hw (by omega) hb hu) ?_); conv => whnf))
      | ((rw [hw1]); conv => whnf)
      | ((rw [hw2]); conv => whnf))
    all_goals first | (exfalso; omega) | (refine Is.ent ?_ ?_; (focus (refine FEnt.ent ?_; (repeat (first | exact FEnt.rfl | (refine FEnt.at 2 rfl ?_; (try simp only [List.eraseIdx_cons_zero, List.eraseIdx_cons_succ, List.eraseIdx_zero, List.tail_cons])) | refine FEnt.drop ?_)); done)); (exact Is.rfl))
  case valN h hl h1 hw hn =>
    rw [x1] at h1 ⊢
    rw [x2] at hw hn ⊢
    have r1 := fun L => Tryd.asmRegister w1 L (by omega) h1
    show Con Tryd.prog 72 [p64 o, u8W c, .slice aw ws.length cw] (Tryd.asmH o X :: L) (Is (insV c (regA w1) (numA w2 65535)) (Tryd.asmH o X :: L))
    have hcc : c ≠ 0 ∧ c ≠ 15 ∧ c ≠ 11 ∧ c ≠ 14 := by omega
    have hcr := fun L => Con.df (by omega) (hcr L)
    refine con_of Tryd.tysOk Tryd.func72 rfl rfl ?_
    conv => whnf
    repeat' (first
      | (first | ((with_reducible refine Br.ff ?_); conv => whnf) | ((with_reducible refine Br.df ?_ ?_); (focus (first | assumption | omega)); conv => whnf))
      | ((with_reducible refine Nd.mk ?_ ?_); (focus (first | omega | rfl | assumption | (simp; done))); conv => whnf)
      | ((with_reducible refine Nc.go' (fun _ => ?_)); conv => whnf)
      | ((with_reducible refine Ix.ad ?_ ?_ ?_); (focus (exact Rd.ad (by assumption))); (focus (omega)); conv => whnf)
      | ((apply Ld.rd0); (focus ((repeat (first | assumption | apply Rd.cons)); done)); (focus rfl); (focus (omega)); (focus rfl); conv => whnf)
      | (first | (refine LdN.at 0 rfl (by first | exact Nat.le_of_ble_eq_true rfl | (simp; done)) ?_; conv => whnf) | (refine LdN.at 1 rfl (by first | exact Nat.le_of_ble_eq_true rfl | (simp; done)) ?_; conv => whnf))
      | (first | (refine St.at 0 rfl (by first | exact Nat.le_of_ble_eq_true rfl | (simp; done)) rfl ?_; conv => whnf) | (refine St.at 1 rfl (by first | exact Nat.le_of_ble_eq_true rfl | (simp; done)) rfl ?_; conv => whnf))
      | (first | ((with_reducible refine (?_ : Cl _ 67 _ _ _ _)); (refine Cl.is (Tryd.asmArgs _ _ _ _ _ (by omega) (by omega)) ?_); conv => whnf) | ((with_reducible refine Cl.is (hcr _) ?_); conv => whnf) | ((with_reducible refine Cl.is (r1 _) ?_); conv => whnf) | ((refine Cl.isAt 2 rfl (Tryd.asmValueP o X w2 2 _ (by omega) hw hn) ?_); conv => whnf))
      | ((rw [hw1]); conv => whnf)
      | ((rw [hw2]); conv => whnf))
    all_goals first | (exfalso; omega) | (refine Is.ent ?_ ?_; (focus (refine FEnt.ent ?_; (repeat (first | exact FEnt.rfl | (refine FEnt.at 2 rfl ?_; (try simp only [List.eraseIdx_cons_zero, List.eraseIdx_cons_succ, List.eraseIdx_zero, List.tail_cons])) | refine FEnt.drop ?_)); done)); (exact Is.rfl))
  case none' h hl => exact absurd hg (by decide)
  case jmpB h hl hw hn hb => rw [hg] at hb; cases hb
  case jmp' h hl => exact absurd hg (by decide)
  case regB h hl h1 hb => rw [hg] at hb; cases hb
  case regC h hl h1 h2 hb => rw [hg] at hb; cases hb
  case callB h hl h1 hb => rw [hg] at hb; cases hb
  case callC h hl h1 h2 hb => rw [hg] at hb; cases hb
  case valB h hl h1 hb => rw [hg] at hb; cases hb
  case valC h hl h1 hw hn hb => rw [hg] at hb; cases hb
  case long h hl => exact absurd hg (by decide)
end Go.Proofs
