/- The assembler's instructions that are wrong: contracts. -/
import Derived.Test.YtloaknocdnpedaaDoorAsmI
set_option linter.all false
namespace Go.Proofs
open Go.Eng Go.RowKit Go.MapKept
open Classical
set_option linter.unusedVariables false
set_option maxRecDepth 100000
set_option maxHeartbeats 4000000
theorem Tryd.asmInstrNo (o : Nat) (X : Aob) (c : Nat) (l : Ln) (aw : Option Addr) (cw : Nat) (ws : List ByteArray) (w1 w2 : ByteArray) (L : List HP) (hc : c < 16) (hr : Rd strE L aw ws) (hN : ws.length ≤ 100000) (hw1 : ws.getD (Int.toNat 1) strE.d = w1) (hw2 : ws.getD (Int.toNat 2) strE.d = w2) (s1 : w1.size ≤ 1000000) (s2 : w2.size ≤ 1000000)
    (hb : X.bs.length ≤ 1024) (hu : X.uses.length ≤ 100000) (hg : l.bad = true) (hR : InsR c ws l) :
    Con Tryd.prog 72 [p64 o, u8W c, .slice aw ws.length cw] (Tryd.asmH o X :: L) (fun _ _ => False) (Tryd.PanX 3 (Tryd.asmH o X :: L)) := by
  have hcr := fun L => Tryd.codeRegister (c : Int) L
  have x1 : wat ws 1 = w1 := hw1
  have x2 : wat ws 2 = w2 := hw2
  cases hR
  case none h hl => cases hg
  case jmpL h hl hw => cases hg
  case jmpN h hl hw hn => cases hg
  case reg h hl h1 h2 => cases hg
  case call h hl h1 h2 => cases hg
  case valL h hl h1 hw => cases hg
  case valN h hl h1 hw hn => cases hg
  case none' h hl =>
    rcases h with rfl | rfl
    all_goals (
      refine con_of Tryd.tysOk Tryd.func72 rfl rfl ?_
      conv => whnf
      repeat' (first
        | (first | ((with_reducible refine Br.tt ?_); conv => whnf) | ((with_reducible refine Br.ff ?_); conv => whnf) | ((with_reducible refine Br.dt ?_ ?_); (focus (first | assumption | omega)); conv => whnf) | ((with_reducible refine Br.df ?_ ?_); (focus (first | assumption | omega)); conv => whnf))
        | ((with_reducible refine Nd.mk ?_ ?_); (focus (first | omega | rfl | assumption | (simp; done))); conv => whnf)
        | ((with_reducible refine Nc.go' (fun _ => ?_)); conv => whnf)
        | (refine St.at 0 rfl (by first | exact Nat.le_of_ble_eq_true rfl | (simp; done)) rfl ?_; conv => whnf)
        | ((with_reducible refine (?_ : Cl _ 67 _ _ _ _)); (refine Cl.pan (Tryd.asmArgsNo _ _ _ _ _ (by omega) (by omega) (by omega)) (fun ch L' h => ?_)); conv => whnf))
      all_goals first | (exfalso; omega) | exact ⟨h.ch, fun w s => (by (refine FEnt.ent ?_; (repeat (first | exact FEnt.rfl | (refine FEnt.at 2 rfl ?_; (try simp only [List.eraseIdx_cons_zero, List.eraseIdx_cons_succ, List.eraseIdx_zero, List.tail_cons])) | refine FEnt.drop ?_)); done) : Ent _ (Tryd.asmH o X :: L)) w (h.l w s)⟩)
  case jmpB h hl hw hn hb =>
    rw [x1] at hw hn
    subst h
    refine con_of Tryd.tysOk Tryd.func72 rfl rfl ?_
    conv => whnf
    repeat' (first
      | (first | ((with_reducible refine Br.ff ?_); conv => whnf) | ((with_reducible refine Br.dt ?_ ?_); (focus (first | assumption | omega)); conv => whnf) | ((with_reducible refine Br.df ?_ ?_); (focus (first | assumption | omega)); conv => whnf))
      | ((with_reducible refine Nd.mk ?_ ?_); (focus (first | omega | rfl | assumption | (simp; done))); conv => whnf)
      | ((with_reducible refine Nc.go' (fun _ => ?_)); conv => whnf)
      | ((with_reducible refine Ix.ad ?_ ?_ ?_); (focus (exact Rd.ad (by assumption))); (focus (omega)); conv => whnf)
      | ((apply Ld.rd0); (focus ((repeat (first | assumption | apply Rd.cons)); done)); (focus rfl); (focus (omega)); (focus rfl); conv => whnf)
      | (refine St.at 0 rfl (by first | exact Nat.le_of_ble_eq_true rfl | (simp; done)) rfl ?_; conv => whnf)
      | (first | ((with_reducible refine (?_ : Cl _ 67 _ _ _ _)); (refine Cl.is (Tryd.asmArgs _ _ _ _ _ (by omega) (by omega)) ?_); conv => whnf) | ((with_reducible refine (?_ : Cl _ 69 _ _ _ _)); (apply (Cl.pre [Tryd.asmH o X]); (focus (repeat (first | exact FEnt.rfl | (refine FEnt.at 2 rfl ?_; (try simp only [List.eraseIdx_cons_zero, List.eraseIdx_cons_succ, List.eraseIdx_zero, List.tail_cons])))); done); refine Cl.pan (Tryd.asmValueNo o X w1 2 _ (by omega) hw hn) (fun ch L' h => ?_)); conv => whnf))
      | ((rw [hw1]); conv => whnf))
    all_goals first | (exfalso; omega) | exact ⟨h.ch, fun w s => (by (refine FEnt.ent ?_; (repeat (first | exact FEnt.rfl | (refine FEnt.at 0 rfl ?_; (try simp only [List.eraseIdx_cons_zero, List.eraseIdx_cons_succ, List.eraseIdx_zero, List.tail_cons])) | refine FEnt.drop ?_)); done) : Ent _ (Tryd.asmH o X :: L)) w (h.l w s)⟩
  case jmp' h hl =>
    subst h
    refine con_of Tryd.tysOk Tryd.func72 rfl rfl ?_
    conv => whnf
    repeat' (first
      | (first | ((with_reducible refine Br.ff ?_); conv => whnf) | ((with_reducible refine Br.dt ?_ ?_); (focus (first | assumption | omega)); conv => whnf) | ((with_reducible refine Br.df ?_ ?_); (focus (first | assumption | omega)); conv => whnf))
      | ((with_reducible refine Nd.mk ?_ ?_); (focus (first | omega | rfl | assumption | (simp; done))); conv => whnf)
      | ((with_reducible refine Nc.go' (fun _ => ?_)); conv => whnf)
      | (refine St.at 0 rfl (by first | exact Nat.le_of_ble_eq_true rfl | (simp; done)) rfl ?_; conv => whnf)
      | ((with_reducible refine (?_ : Cl _ 67 _ _ _ _)); (refine Cl.pan (Tryd.asmArgsNo _ _ _ _ _ (by omega) (by omega) (by omega)) (fun ch L' h => ?_)); conv => whnf))
    all_goals first | (exfalso; omega) | exact ⟨h.ch, fun w s => (by (refine FEnt.ent ?_; (repeat (first | exact FEnt.rfl | (refine FEnt.at 2 rfl ?_; (try simp only [List.eraseIdx_cons_zero, List.eraseIdx_cons_succ, List.eraseIdx_zero, List.tail_cons])) | refine FEnt.drop ?_)); done) : Ent _ (Tryd.asmH o X :: L)) w (h.l w s)⟩
  case regB h hl h1 hb =>
    rw [x1] at h1
    have hcr := fun L => Con.dt (by omega) (hcr L)
    refine con_of Tryd.tysOk Tryd.func72 rfl rfl ?_
    conv => whnf
    repeat' (first
      | (first | ((with_reducible refine Br.tt ?_); conv => whnf) | ((with_reducible refine Br.ff ?_); conv => whnf) | ((with_reducible refine Br.df ?_ ?_); (focus (first | assumption | omega)); conv => whnf))
      | ((with_reducible refine Nd.mk ?_ ?_); (focus (first | omega | rfl | assumption | (simp; done))); conv => whnf)
      | ((with_reducible refine Nc.go' (fun _ => ?_)); conv => whnf)
      | (refine St.at 0 rfl (by first | exact Nat.le_of_ble_eq_true rfl | (simp; done)) rfl ?_; conv => whnf)
      | (first | ((with_reducible refine (?_ : Cl _ 67 _ _ _ _)); (refine Cl.is (Tryd.asmArgs _ _ _ _ _ (by omega) (by omega)) ?_); conv => whnf) | ((with_reducible refine Cl.is (hcr _) ?_); conv => whnf)))
    all_goals try (exfalso; omega)
    conv => whnf
    refine Dr.pan (id := 12) Tryd.tysOk rfl [(0, 0), (1, 0), (4, 0), (5, 0), (2, 1), (6, 1)] 3 (Tryd.PanX 3 (Tryd.asmH o X :: L)) (by kernel_rfl) ?_ ?_
    · conv => whnf
      repeat' (first
        | ((with_reducible refine Ix.ad ?_ ?_ ?_); (focus (exact Rd.ad (by assumption))); (focus (omega)); conv => whnf)
        | ((apply Ld.rd0); (focus ((repeat (first | assumption | apply Rd.cons)); done)); (focus rfl); (focus (omega)); (focus rfl); conv => whnf)
        | ((with_reducible refine (?_ : Cl _ 87 _ _ _ _)); (refine Cl.pan (Tryd.asmRegisterNo w1 _ (by omega) h1) (fun ch L' h => ?_)); conv => whnf)
        | ((rw [hw1]); conv => whnf))
      all_goals first | (exfalso; omega) | exact ⟨h.ch, fun w s => (by (refine FEnt.ent ?_; (repeat (first | exact FEnt.rfl | (refine FEnt.at 2 rfl ?_; (try simp only [List.eraseIdx_cons_zero, List.eraseIdx_cons_succ, List.eraseIdx_zero, List.tail_cons])) | refine FEnt.drop ?_)); done) : Ent _ (Tryd.asmH o X :: L)) w (h.l w s)⟩
    · intro ch l' L' h; exact h
  case regC h hl h1 h2 hb =>
    rw [x1] at h1
    rw [x2] at h2
    have r1 := fun L => Tryd.asmRegister w1 L (by omega) h1
    have hcr := fun L => Con.dt (by omega) (hcr L)
    refine con_of Tryd.tysOk Tryd.func72 rfl rfl ?_
    conv => whnf
    repeat' (first
      | (first | ((with_reducible refine Br.tt ?_); conv => whnf) | ((with_reducible refine Br.ff ?_); conv => whnf) | ((with_reducible refine Br.df ?_ ?_); (focus (first | assumption | omega)); conv => whnf))
      | ((with_reducible refine Nd.mk ?_ ?_); (focus (first | omega | rfl | assumption | (simp; done))); conv => whnf)
      | ((with_reducible refine Nc.go' (fun _ => ?_)); conv => whnf)
      | (refine St.at 0 rfl (by first | exact Nat.le_of_ble_eq_true rfl | (simp; done)) rfl ?_; conv => whnf)
      | (first | ((with_reducible refine (?_ : Cl _ 67 _ _ _ _)); (refine Cl.is (Tryd.asmArgs _ _ _ _ _ (by omega) (by omega)) ?_); conv => whnf) | ((with_reducible refine Cl.is (hcr _) ?_); conv => whnf)))
    all_goals try (exfalso; omega)
    conv => whnf
    refine Dr.pan (id := 12) Tryd.tysOk rfl [(0, 0), (1, 0), (4, 0), (5, 0), (2, 1), (6, 1), (3, 1), (8, 0)] 7 (Tryd.PanX 3 (Tryd.asmH o X :: L)) (by kernel_rfl) ?_ ?_
    · conv => whnf
      repeat' (first
        | ((with_reducible refine Ix.ad ?_ ?_ ?_); (focus (exact Rd.ad (by assumption))); (focus (omega)); conv => whnf)
        | ((apply Ld.rd0); (focus ((repeat (first | assumption | apply Rd.cons)); done)); (focus rfl); (focus (omega)); (focus rfl); conv => whnf)
        | ((with_reducible refine CD.is (fun M => r1 _) ?_); conv => whnf)
        | ((with_reducible refine (?_ : Cl _ 87 _ _ _ _)); (refine Cl.pan (Tryd.asmRegisterNo w2 _ (by omega) h2) (fun ch L' h => ?_)); conv => whnf)
        | ((rw [hw1]); conv => whnf)
        | ((rw [hw2]); conv => whnf))
      all_goals first | (exfalso; omega) | exact ⟨h.ch, fun w s => (by (refine FEnt.ent ?_; (repeat (first | exact FEnt.rfl | (refine FEnt.at 2 rfl ?_; (try simp only [List.eraseIdx_cons_zero, List.eraseIdx_cons_succ, List.eraseIdx_zero, List.tail_cons])) | refine FEnt.drop ?_)); done) : Ent _ (Tryd.asmH o X :: L)) w (h.l w s)⟩
    · intro ch l' L' h; exact h
  case callB h hl h1 hb =>
    rw [x1] at h1
    subst h
    have hcr := fun L => Con.df (by omega) (hcr L)
    refine con_of Tryd.tysOk Tryd.func72 rfl rfl ?_
    conv => whnf
    repeat' (first
      | (first | ((with_reducible refine Br.ff ?_); conv => whnf) | ((with_reducible refine Br.dt ?_ ?_); (focus (first | assumption | omega)); conv => whnf) | ((with_reducible refine Br.df ?_ ?_); (focus (first | assumption | omega)); conv => whnf))
      | ((with_reducible refine Nd.mk ?_ ?_); (focus (first | omega | rfl | assumption | (simp; done))); conv => whnf)
      | ((with_reducible refine Nc.go' (fun _ => ?_)); conv => whnf)
      | (refine St.at 0 rfl (by first | exact Nat.le_of_ble_eq_true rfl | (simp; done)) rfl ?_; conv => whnf)
      | (first | ((with_reducible refine (?_ : Cl _ 67 _ _ _ _)); (refine Cl.is (Tryd.asmArgs _ _ _ _ _ (by omega) (by omega)) ?_); conv => whnf) | ((with_reducible refine Cl.is (hcr _) ?_); conv => whnf)))
    all_goals try (exfalso; omega)
    conv => whnf
    refine Dr.pan (id := 15) Tryd.tysOk rfl [(0, 0), (1, 0), (4, 0), (5, 0), (2, 1), (6, 1)] 3 (Tryd.PanX 3 (Tryd.asmH o X :: L)) (by kernel_rfl) ?_ ?_
    · conv => whnf
      repeat' (first
        | ((with_reducible refine Ix.ad ?_ ?_ ?_); (focus (exact Rd.ad (by assumption))); (focus (omega)); conv => whnf)
        | ((apply Ld.rd0); (focus ((repeat (first | assumption | apply Rd.cons)); done)); (focus rfl); (focus (omega)); (focus rfl); conv => whnf)
        | ((with_reducible refine (?_ : Cl _ 87 _ _ _ _)); (refine Cl.pan (Tryd.asmRegisterNo w1 _ (by omega) h1) (fun ch L' h => ?_)); conv => whnf)
        | ((rw [hw1]); conv => whnf))
      all_goals first | (exfalso; omega) | exact ⟨h.ch, fun w s => (by (refine FEnt.ent ?_; (repeat (first | exact FEnt.rfl | (refine FEnt.at 2 rfl ?_; (try simp only [List.eraseIdx_cons_zero, List.eraseIdx_cons_succ, List.eraseIdx_zero, List.tail_cons])) | refine FEnt.drop ?_)); done) : Ent _ (Tryd.asmH o X :: L)) w (h.l w s)⟩
    · intro ch l' L' h; exact h
  case callC h hl h1 h2 hb =>
    rw [x1] at h1
    rw [x2] at h2
    subst h
    have r1 := fun L => Tryd.asmRegister w1 L (by omega) h1
    have hcr := fun L => Con.df (by omega) (hcr L)
    refine con_of Tryd.tysOk Tryd.func72 rfl rfl ?_
    conv => whnf
    repeat' (first
      | (first | ((with_reducible refine Br.ff ?_); conv => whnf) | ((with_reducible refine Br.dt ?_ ?_); (focus (first | assumption | omega)); conv => whnf) | ((with_reducible refine Br.df ?_ ?_); (focus (first | assumption | omega)); conv => whnf))
      | ((with_reducible refine Nd.mk ?_ ?_); (focus (first | omega | rfl | assumption | (simp; done))); conv => whnf)
      | ((with_reducible refine Nc.go' (fun _ => ?_)); conv => whnf)
      | (refine St.at 0 rfl (by first | exact Nat.le_of_ble_eq_true rfl | (simp; done)) rfl ?_; conv => whnf)
      | (first | ((with_reducible refine (?_ : Cl _ 67 _ _ _ _)); (refine Cl.is (Tryd.asmArgs _ _ _ _ _ (by omega) (by omega)) ?_); conv => whnf) | ((with_reducible refine Cl.is (hcr _) ?_); conv => whnf)))
    all_goals try (exfalso; omega)
    conv => whnf
    refine Dr.pan (id := 15) Tryd.tysOk rfl [(0, 0), (1, 0), (4, 0), (5, 0), (2, 1), (6, 1), (3, 1), (8, 0)] 7 (Tryd.PanX 3 (Tryd.asmH o X :: L)) (by kernel_rfl) ?_ ?_
    · conv => whnf
      repeat' (first
        | ((with_reducible refine Ix.ad ?_ ?_ ?_); (focus (exact Rd.ad (by assumption))); (focus (omega)); conv => whnf)
        | ((apply Ld.rd0); (focus ((repeat (first | assumption | apply Rd.cons)); done)); (focus rfl); (focus (omega)); (focus rfl); conv => whnf)
        | ((with_reducible refine CD.is (fun M => r1 _) ?_); conv => whnf)
        | ((with_reducible refine (?_ : Cl _ 68 _ _ _ _)); (refine Cl.pan (Tryd.asmPlainNo w2 65535 _ (by omega) (by omega) h2) (fun ch L' h => ?_)); conv => whnf)
        | ((rw [hw1]); conv => whnf)
        | ((rw [hw2]); conv => whnf))
      all_goals first | (exfalso; omega) | exact ⟨h.ch, fun w s => (by (refine FEnt.ent ?_; (repeat (first | exact FEnt.rfl | (refine FEnt.at 2 rfl ?_; (try simp only [List.eraseIdx_cons_zero, List.eraseIdx_cons_succ, List.eraseIdx_zero, List.tail_cons])) | refine FEnt.drop ?_)); done) : Ent _ (Tryd.asmH o X :: L)) w (h.l w s)⟩
    · intro ch l' L' h; exact h
  case valB h hl h1 hb =>
    rw [x1] at h1
    have hcc : c ≠ 0 ∧ c ≠ 15 ∧ c ≠ 11 ∧ c ≠ 14 := by omega
    have hcr := fun L => Con.df (by omega) (hcr L)
    refine con_of Tryd.tysOk Tryd.func72 rfl rfl ?_
    conv => whnf
    repeat' (first
      | (first | ((with_reducible refine Br.ff ?_); conv => whnf) | ((with_reducible refine Br.df ?_ ?_); (focus (first | assumption | omega)); conv => whnf))
      | ((with_reducible refine Nd.mk ?_ ?_); (focus (first | omega | rfl | assumption | (simp; done))); conv => whnf)
      | ((with_reducible refine Nc.go' (fun _ => ?_)); conv => whnf)
      | ((with_reducible refine Ix.ad ?_ ?_ ?_); (focus (exact Rd.ad (by assumption))); (focus (omega)); conv => whnf)
      | ((apply Ld.rd0); (focus ((repeat (first | assumption | apply Rd.cons)); done)); (focus rfl); (focus (omega)); (focus rfl); conv => whnf)
      | (refine St.at 0 rfl (by first | exact Nat.le_of_ble_eq_true rfl | (simp; done)) rfl ?_; conv => whnf)
      | (first | ((with_reducible refine (?_ : Cl _ 67 _ _ _ _)); (refine Cl.is (Tryd.asmArgs _ _ _ _ _ (by omega) (by omega)) ?_); conv => whnf) | ((with_reducible refine Cl.is (hcr _) ?_); conv => whnf) | ((with_reducible refine (?_ : Cl _ 87 _ _ _ _)); (refine Cl.pan (Tryd.asmRegisterNo w1 _ (by omega) h1) (fun ch L' h => ?_)); conv => whnf))
      | ((rw [hw1]); conv => whnf))
    all_goals first | (exfalso; omega) | exact ⟨h.ch, fun w s => (by (refine FEnt.ent ?_; (repeat (first | exact FEnt.rfl | (refine FEnt.at 2 rfl ?_; (try simp only [List.eraseIdx_cons_zero, List.eraseIdx_cons_succ, List.eraseIdx_zero, List.tail_cons])) | refine FEnt.drop ?_)); done) : Ent _ (Tryd.asmH o X :: L)) w (h.l w s)⟩
  case valC h hl h1 hw hn hb =>
    rw [x1] at h1
    rw [x2] at hw hn
    have r1 := fun L => Tryd.asmRegister w1 L (by omega) h1
    have hcc : c ≠ 0 ∧ c ≠ 15 ∧ c ≠ 11 ∧ c ≠ 14 := by omega
    have hcr := fun L => Con.df (by omega) (hcr L)
    refine con_of Tryd.tysOk Tryd.func72 rfl rfl ?_
    conv => whnf
    repeat' (first
      | (first | ((with_reducible refine Br.ff ?_); conv => whnf) | ((with_reducible refine Br.df ?_ ?_); (focus (first | assumption | omega)); conv => whnf))
      | ((with_reducible refine Nd.mk ?_ ?_); (focus (first | omega | rfl | assumption | (simp; done))); conv => whnf)
      | ((with_reducible refine Nc.go' (fun _ => ?_)); conv => whnf)
      | ((with_reducible refine Ix.ad ?_ ?_ ?_); (focus (exact Rd.ad (by assumption))); (focus (omega)); conv => whnf)
      | ((apply Ld.rd0); (focus ((repeat (first | assumption | apply Rd.cons)); done)); (focus rfl); (focus (omega)); (focus rfl); conv => whnf)
      | (refine St.at 0 rfl (by first | exact Nat.le_of_ble_eq_true rfl | (simp; done)) rfl ?_; conv => whnf)
      | (first | ((with_reducible refine (?_ : Cl _ 67 _ _ _ _)); (refine Cl.is (Tryd.asmArgs _ _ _ _ _ (by omega) (by omega)) ?_); conv => whnf) | ((with_reducible refine Cl.is (hcr _) ?_); conv => whnf) | ((with_reducible refine Cl.is (r1 _) ?_); conv => whnf) | ((with_reducible refine (?_ : Cl _ 69 _ _ _ _)); (apply (Cl.pre [Tryd.asmH o X]); (focus (repeat (first | exact FEnt.rfl | (refine FEnt.at 2 rfl ?_; (try simp only [List.eraseIdx_cons_zero, List.eraseIdx_cons_succ, List.eraseIdx_zero, List.tail_cons])))); done); refine Cl.pan (Tryd.asmValueNo o X w2 2 _ (by omega) hw hn) (fun ch L' h => ?_)); conv => whnf))
      | ((rw [hw1]); conv => whnf)
      | ((rw [hw2]); conv => whnf))
    all_goals first | (exfalso; omega) | exact ⟨h.ch, fun w s => (by (refine FEnt.ent ?_; (repeat (first | exact FEnt.rfl | (refine FEnt.at 0 rfl ?_; (try simp only [List.eraseIdx_cons_zero, List.eraseIdx_cons_succ, List.eraseIdx_zero, List.tail_cons])) | refine FEnt.drop ?_)); done) : Ent _ (Tryd.asmH o X :: L)) w (h.l w s)⟩
  case long h hl =>
    by_cases hrg : 2 ≤ c ∧ c ≤ 10
    · have hcr := fun L => Con.dt (by omega) (hcr L)
      refine con_of Tryd.tysOk Tryd.func72 rfl rfl ?_
      conv => whnf
      repeat' (first
        | (first | ((with_reducible refine Br.tt ?_); conv => whnf) | ((with_reducible refine Br.ff ?_); conv => whnf) | ((with_reducible refine Br.df ?_ ?_); (focus (first | assumption | omega)); conv => whnf))
        | ((with_reducible refine Nd.mk ?_ ?_); (focus (first | omega | rfl | assumption | (simp; done))); conv => whnf)
        | ((with_reducible refine Nc.go' (fun _ => ?_)); conv => whnf)
        | (refine St.at 0 rfl (by first | exact Nat.le_of_ble_eq_true rfl | (simp; done)) rfl ?_; conv => whnf)
        | (first | ((with_reducible refine Cl.is (hcr _) ?_); conv => whnf) | ((with_reducible refine (?_ : Cl _ 67 _ _ _ _)); (refine Cl.pan (Tryd.asmArgsNo _ _ _ _ _ (by omega) (by omega) (by omega)) (fun ch L' h => ?_)); conv => whnf)))
      all_goals first | (exfalso; omega) | exact ⟨h.ch, fun w s => (by (refine FEnt.ent ?_; (repeat (first | exact FEnt.rfl | (refine FEnt.at 2 rfl ?_; (try simp only [List.eraseIdx_cons_zero, List.eraseIdx_cons_succ, List.eraseIdx_zero, List.tail_cons])) | refine FEnt.drop ?_)); done) : Ent _ (Tryd.asmH o X :: L)) w (h.l w s)⟩
    · have hcr := fun L => Con.df (by omega) (hcr L)
      refine con_of Tryd.tysOk Tryd.func72 rfl rfl ?_
      conv => whnf
      repeat' (first
        | (first | ((with_reducible refine Br.ff ?_); conv => whnf) | ((with_reducible refine Br.df ?_ ?_); (focus (first | assumption | omega)); conv => whnf))
        | ((with_reducible refine Nd.mk ?_ ?_); (focus (first | omega | rfl | assumption | (simp; done))); conv => whnf)
        | ((with_reducible refine Nc.go' (fun _ => ?_)); conv => whnf)
        | (refine St.at 0 rfl (by first | exact Nat.le_of_ble_eq_true rfl | (simp; done)) rfl ?_; conv => whnf)
        | (first | ((with_reducible refine Cl.is (hcr _) ?_); conv => whnf) | ((with_reducible refine (?_ : Cl _ 67 _ _ _ _)); (refine Cl.pan (Tryd.asmArgsNo _ _ _ _ _ (by omega) (by omega) (by omega)) (fun ch L' h => ?_)); conv => whnf))
        | ((with_reducible refine Br.ds (fun _ => ?_) (fun _ => ?_) ) <;> (conv => whnf)))
      all_goals first | (exfalso; omega) | exact ⟨h.ch, fun w s => (by (refine FEnt.ent ?_; (repeat (first | exact FEnt.rfl | (refine FEnt.at 2 rfl ?_; (try simp only [List.eraseIdx_cons_zero, List.eraseIdx_cons_succ, List.eraseIdx_zero, List.tail_cons])) | refine FEnt.drop ?_)); done) : Ent _ (Tryd.asmH o X :: L)) w (h.l w s)⟩
end Go.Proofs
