/- The assembler: what a line makes: contracts. -/
import Derived.Test.YtloaknocdnpedaaDoorAsmJ
set_option linter.all false
namespace Go.Proofs
open Go.Eng Go.RowKit Go.MapKept
open Classical
set_option linter.unusedVariables false
set_option maxRecDepth 100000
set_option maxHeartbeats 4000000
def lnZ : List Int → List Int → List UInt8
  | n :: ns, s :: ss => (p2 n).take s.toNat ++ lnZ ns ss
  | _, _ => []
abbrev lnZb (l : Ln) : List UInt8 := lnZ l.nums l.szs
/-- a line that is no label -/
noncomputable def bytF (w : List ByteArray) : Ln :=
  if wat w 0 = byteB ∧ w.length = 2 then ⟨noB, [numA (wat w 1) 255], [1], noB, decide (numA (wat w 1) 255 < 0)⟩
  else if wat w 0 = twoB ∧ w.length = 2 then valF nilL (wat w 1)
  else if 0 ≤ codeI (wat w 0) then insF (codeI (wat w 0)) w else badL
theorem codeI_byte : codeI byteB = -1 := by decide +kernel
theorem codeI_two : codeI twoB = -1 := by decide +kernel
theorem two_byte : twoB ≠ byteB := by decide
theorem insR_sz {c : Nat} {ws : List ByteArray} {l : Ln} (h : InsR c ws l) (hg : l.bad = false) : ∃ x n, l.nums = [(c : Int), x, n] ∧ l.szs = [1, 1, 2] ∧ l.nums.getD 1 0 = x ∧ l.nums.getD 2 0 = n ∧ mayI c x n := by
  cases h
  case none h hl => exact ⟨0, 0, rfl, rfl, rfl, rfl, by omega⟩
  case none' h hl => cases hg
  case jmpL h hl hw => exact ⟨0, 0, rfl, rfl, rfl, rfl, by omega⟩
  case jmpN h hl hw hn => exact ⟨0, _, rfl, rfl, rfl, rfl, by have := numA_P (wat ws 1) (m := 65535) (by omega); omega⟩
  case jmpB => simp_all
  case jmp' => cases hg
  case reg h hl h1 h2 => exact ⟨_, _, rfl, rfl, rfl, rfl, by have := regA_P (wat ws 1); have := regA_P (wat ws 2); omega⟩
  case regB => simp_all
  case regC => simp_all
  case call h hl h1 h2 => exact ⟨_, _, rfl, rfl, rfl, rfl, by have := regA_P (wat ws 1); have := numA_P (wat ws 2) (m := 65535) (by omega); omega⟩
  case callB => simp_all
  case callC => simp_all
  case valL h hl h1 hw => exact ⟨_, 0, rfl, rfl, rfl, rfl, by have := regA_P (wat ws 1); omega⟩
  case valN h hl h1 hw hn => exact ⟨_, _, rfl, rfl, rfl, rfl, by have := regA_P (wat ws 1); have := numA_P (wat ws 2) (m := 65535) (by omega); omega⟩
  case valB => simp_all
  case valC => simp_all
  case long => cases hg
theorem Tryd.asmBytes (o : Nat) (X : Aob) (aw : Option Addr) (cw : Nat) (ws : List ByteArray) (w0 w1 : ByteArray) (L : List HP) (hr : Rd strE L aw ws) (hN : ws.length ≤ 100000) (h1 : 1 ≤ ws.length) (hs : ∀ i, (ws.getD i strE.d).size ≤ 1000000)
    (hw0 : ws.getD (Int.toNat 0) strE.d = w0) (hw1 : ws.getD (Int.toNat 1) strE.d = w1) (hb : X.bs.length ≤ 1024) (hu : X.uses.length ≤ 100000) (hg : (bytF ws).bad = false) :
    Con Tryd.prog 55 [p64 o, .slice aw ws.length cw] (Tryd.asmH o X :: L) (Is (.string (bsL (lnZb (bytF ws)))) (Tryd.asmH o (addU X (bytF ws).nam (szF (bytF ws) - 2)) :: L)) := by
  have z0 : w0.size ≤ 1000000 := by rw [← hw0]; exact hs _
  have z1 : w1.size ≤ 1000000 := by rw [← hw1]; exact hs _
  have z2 := hs (Int.toNat 2)
  have x0 : wat ws 0 = w0 := hw0
  have x1 : wat ws 1 = w1 := hw1
  unfold bytF at hg ⊢
  rw [x0, x1] at hg ⊢
  by_cases hB : w0 = byteB ∧ ws.length = 2
  · rw [if_pos hB] at hg ⊢
    obtain ⟨b1, b2⟩ := hB
    have b1' : w0 = (⟨#[98, 121, 116, 101]⟩ : ByteArray) := b1
    have hn : 0 ≤ numA w1 255 := by
      have : ¬ numA w1 255 < 0 := of_decide_eq_false hg
      omega
    have hnp := numA_P w1 (m := 255) (by omega)
    have hp := fun L => Tryd.asmPlain w1 255 L (by omega) (by omega) hn
    clear hs x0 x1 b1 hg
    show Con Tryd.prog 55 [p64 o, .slice aw ws.length cw] (Tryd.asmH o X :: L) (Is (.string (bsL [u8of (numA w1 255)])) (Tryd.asmH o X :: L))
    refine con_of Tryd.tysOk Tryd.func55 rfl rfl ?_
    conv => whnf
    repeat' (first
      | ((with_reducible refine Br.dt ?_ ?_); (focus (first | assumption | omega)); conv => whnf)
      | ((with_reducible refine Ar.u8b ?_); conv => whnf)
      | ((with_reducible refine Nc.go' (fun _ => ?_)); conv => whnf)
      | ((with_reducible refine Ix.ad ?_ ?_ ?_); (focus (exact Rd.ad (by assumption))); (focus (omega)); conv => whnf)
      | ((apply Ld.rd0); (focus ((repeat (first | assumption | apply Rd.cons)); done)); (focus rfl); (focus (omega)); (focus rfl); conv => whnf)
      | (first | ((with_reducible refine (?_ : Cl _ 67 _ _ _ _)); (refine Cl.is (Tryd.asmArgs _ _ _ _ _ (by omega) (by omega)) ?_); conv => whnf) | ((with_reducible refine Cl.is (hp _) ?_); conv => whnf))
      | ((with_reducible refine (?_ : Sm _ (convert _ _ _) _ _)); ((apply (Sm.b2s Tryd.tysOk)); (rotate_left; (focus (exact Rd.ptc 0 rfl [_] rfl)); rotate_right; (focus rfl)); (focus rfl); (focus rfl); (focus rfl); (focus rfl); (focus rfl); (focus rfl); conv => whnf))
      | ((rw [hw0]); conv => whnf)
      | ((rw [hw1]); conv => whnf))
    all_goals first | (exfalso; omega) | (refine Is.ent ?_ ?_; (focus (refine FEnt.ent ?_; (repeat (first | exact FEnt.rfl | (refine FEnt.at 1 rfl ?_; (try simp only [List.eraseIdx_cons_zero, List.eraseIdx_cons_succ, List.eraseIdx_zero, List.tail_cons])) | refine FEnt.drop ?_)); done)); (exact Is.rfl))
  · rw [if_neg hB] at hg ⊢
    by_cases hC : w0 = Go.Proofs.twoB ∧ ws.length = 2
    · rw [if_pos hC] at hg ⊢
      obtain ⟨b1, b2⟩ := hC
      have b1' : w0 = (⟨#[116, 119, 111]⟩ : ByteArray) := b1
      have b3 : ¬ w0 = (⟨#[98, 121, 116, 101]⟩ : ByteArray) := fun h => by rw [b1'] at h; exact absurd h (by decide)
      rcases val_cases nilL w1 with ⟨hw, e⟩ | ⟨hw, hn, e⟩ | ⟨hw, hn, e⟩
      · rw [e]
        clear hs x0 x1 b1 hg e
        have e2 : addU X w1 0 = ⟨X.bs, X.labs, X.uses ++ [(w1, (X.bs.length : Int) + 0, X.line)], X.line⟩ := if_neg (ltr_ne hw)
        show Con Tryd.prog 55 [p64 o, .slice aw ws.length cw] (Tryd.asmH o X :: L) (Is (.string (bsL (p2 0))) (Tryd.asmH o (addU X w1 0) :: L))
        rw [e2]
        have hbp := fun L => Tryd.bitsPut 0 L
        refine con_of Tryd.tysOk Tryd.func55 rfl rfl ?_
        conv => whnf
        repeat' (first
          | (first | ((with_reducible refine Br.dt ?_ ?_); (focus (first | assumption | omega)); conv => whnf) | ((with_reducible refine Br.df ?_ ?_); (focus (first | assumption | omega)); conv => whnf))
          | ((with_reducible refine Ix.ad ?_ ?_ ?_); (focus (exact Rd.ad (by assumption))); (focus (omega)); conv => whnf)
          | ((apply Ld.rd0); (focus ((repeat (first | assumption | apply Rd.cons)); done)); (focus rfl); (focus (omega)); (focus rfl); conv => whnf)
          | (first | ((with_reducible refine (?_ : Cl _ 67 _ _ _ _)); (refine Cl.is (Tryd.asmArgs _ _ _ _ _ (by omega) (by omega)) ?_); conv => whnf) | ((refine Cl.isAt 0 rfl (Tryd.asmValueN o X w1 0 _ (by omega) hw (by omega) hb hu) ?_); conv => whnf) | ((with_reducible refine Cl.is (hbp _) ?_); conv => whnf))
          | ((rw [hw0]); conv => whnf)
          | ((rw [hw1]); conv => whnf))
        all_goals first | (exfalso; omega) | (refine Is.ent ?_ ?_; (focus (exact Ent.rfl)); (exact Is.rfl))
      · rw [e]
        clear hs x0 x1 b1 hg e
        show Con Tryd.prog 55 [p64 o, .slice aw ws.length cw] (Tryd.asmH o X :: L) (Is (.string (bsL (p2 (numA w1 65535)))) (Tryd.asmH o X :: L))
        have hbp := fun L => Tryd.bitsPut (numA w1 65535) L
        refine con_of Tryd.tysOk Tryd.func55 rfl rfl ?_
        conv => whnf
        repeat' (first
          | (first | ((with_reducible refine Br.dt ?_ ?_); (focus (first | assumption | omega)); conv => whnf) | ((with_reducible refine Br.df ?_ ?_); (focus (first | assumption | omega)); conv => whnf))
          | ((with_reducible refine Ix.ad ?_ ?_ ?_); (focus (exact Rd.ad (by assumption))); (focus (omega)); conv => whnf)
          | ((apply Ld.rd0); (focus ((repeat (first | assumption | apply Rd.cons)); done)); (focus rfl); (focus (omega)); (focus rfl); conv => whnf)
          | (first | ((with_reducible refine (?_ : Cl _ 67 _ _ _ _)); (refine Cl.is (Tryd.asmArgs _ _ _ _ _ (by omega) (by omega)) ?_); conv => whnf) | ((refine Cl.isAt 0 rfl (Tryd.asmValueP o X w1 0 _ (by omega) hw hn) ?_); conv => whnf) | ((with_reducible refine Cl.is (hbp _) ?_); conv => whnf))
          | ((rw [hw0]); conv => whnf)
          | ((rw [hw1]); conv => whnf))
        all_goals first | (exfalso; omega) | (refine Is.ent ?_ ?_; (focus (exact Ent.rfl)); (exact Is.rfl))
      · rw [e] at hg; cases hg
    · rw [if_neg hC] at hg ⊢
      by_cases hD : 0 ≤ codeI w0
      · rw [if_pos hD] at hg ⊢
        have hci := codeI_P w0
        obtain ⟨c, hc⟩ : ∃ c : Nat, codeI w0 = c := ⟨(codeI w0).toNat, by omega⟩
        have hb0 : ¬ w0 = (⟨#[98, 121, 116, 101]⟩ : ByteArray) := fun h => by have : w0 = byteB := h; rw [this, codeI_byte] at hD; omega
        have ht0 : ¬ w0 = (⟨#[116, 119, 111]⟩ : ByteArray) := fun h => by have : w0 = Go.Proofs.twoB := h; rw [this, codeI_two] at hD; omega
        have hcn := fun L => Tryd.codeNamed w0 L
        rw [decide_eq_true hD, hc, show max (c : Int) 0 = (c : Int) by omega] at hcn
        rw [hc] at hg ⊢
        have hR := insR_of (show c < 16 by omega) ws
        generalize hL : insF (c : Int) ws = l at *
        obtain ⟨x, n, q1, q2, q3, q4, q5⟩ := insR_sz hR hg
        have hin := fun L h => Tryd.asmInstr o X c l aw cw ws w1 _ L (by omega) h hN hw1 rfl z1 z2 hb hu hg hR
        rw [q3, q4] at hin
        have hcp := fun L => Tryd.codePut c x n L q5
        have ez : lnZb l = [u8of (c : Int), u8of x] ++ p2 n := by show lnZ l.nums l.szs = _; rw [q1, q2]; rfl
        have es : szF l - 2 = 2 := by show sumI l.szs - 2 = 2; rw [q2]; rfl
        rw [ez, es]
        clear hs x0 x1 hg hR hL q1 q2 q3 q4 hB hC ez es
        refine con_of Tryd.tysOk Tryd.func55 rfl rfl ?_
        conv => whnf
        repeat' (first
          | (first | ((with_reducible refine Br.nt ?_); conv => whnf) | ((with_reducible refine Br.df ?_ ?_); (focus (first | assumption | omega)); conv => whnf) | ((with_reducible refine Br.ndf ?_ ?_); (focus (first | assumption | omega)); conv => whnf))
          | ((with_reducible refine Nd.mk ?_ ?_); (focus (first | omega | rfl | assumption | (simp; done))); conv => whnf)
          | ((with_reducible refine Ix.ad ?_ ?_ ?_); (focus (exact Rd.ad (by assumption))); (focus (omega)); conv => whnf)
          | ((apply Ld.rd0); (focus ((repeat (first | assumption | apply Rd.cons)); done)); (focus rfl); (focus (omega)); (focus rfl); conv => whnf)
          | (first | ((with_reducible refine Cl.is (hcn _) ?_); conv => whnf) | ((refine Cl.isAt 0 rfl (hin _ (by ((repeat (assumption)); done))) ?_); conv => whnf) | ((with_reducible refine Cl.is (hcp _) ?_); conv => whnf))
          | ((rw [hw0]); conv => whnf))
        all_goals first | (exfalso; omega) | (refine Is.ent ?_ ?_; (focus (exact Ent.rfl)); (exact Is.rfl))
      · rw [if_neg hD] at hg; cases hg
theorem Tryd.asmBytesNo (o : Nat) (X : Aob) (aw : Option Addr) (cw : Nat) (ws : List ByteArray) (w0 w1 : ByteArray) (L : List HP) (hr : Rd strE L aw ws) (hN : ws.length ≤ 100000) (h1 : 1 ≤ ws.length) (hs : ∀ i, (ws.getD i strE.d).size ≤ 1000000)
    (hw0 : ws.getD (Int.toNat 0) strE.d = w0) (hw1 : ws.getD (Int.toNat 1) strE.d = w1) (hb : X.bs.length ≤ 1024) (hu : X.uses.length ≤ 100000) (hg : (bytF ws).bad = true) :
    Con Tryd.prog 55 [p64 o, .slice aw ws.length cw] (Tryd.asmH o X :: L) (fun _ _ => False) (Tryd.PanX 3 (Tryd.asmH o X :: L)) := by
  have z0 : w0.size ≤ 1000000 := by rw [← hw0]; exact hs _
  have z1 : w1.size ≤ 1000000 := by rw [← hw1]; exact hs _
  have z2 := hs (Int.toNat 2)
  have x0 : wat ws 0 = w0 := hw0
  have x1 : wat ws 1 = w1 := hw1
  unfold bytF at hg
  rw [x0, x1] at hg
  clear hs x0 x1
  by_cases hB : w0 = byteB
  · have b1' : w0 = (⟨#[98, 121, 116, 101]⟩ : ByteArray) := hB
    by_cases b2 : ws.length = 2
    · rw [if_pos ⟨hB, b2⟩] at hg
      have hn : ¬ 0 ≤ numA w1 255 := by
        have : numA w1 255 < 0 := of_decide_eq_true hg
        omega
      have hp := fun L => Tryd.asmPlainNo w1 255 L (by omega) (by omega) hn
      clear hB hg
      refine con_of Tryd.tysOk Tryd.func55 rfl rfl ?_
      conv => whnf
      repeat' (first
        | ((with_reducible refine Br.dt ?_ ?_); (focus (first | assumption | omega)); conv => whnf)
        | ((with_reducible refine Ix.ad ?_ ?_ ?_); (focus (exact Rd.ad (by assumption))); (focus (omega)); conv => whnf)
        | ((apply Ld.rd0); (focus ((repeat (first | assumption | apply Rd.cons)); done)); (focus rfl); (focus (omega)); (focus rfl); conv => whnf)
        | (first | ((with_reducible refine (?_ : Cl _ 67 _ _ _ _)); (refine Cl.is (Tryd.asmArgs _ _ _ _ _ (by omega) (by omega)) ?_); conv => whnf) | ((with_reducible refine (?_ : Cl _ 68 _ _ _ _)); (refine Cl.pan (hp _) (fun ch L' h => ?_)); conv => whnf))
        | ((rw [hw0]); conv => whnf)
        | ((rw [hw1]); conv => whnf))
      all_goals first | (exfalso; omega) | exact ⟨h.ch, fun w s => (by (exact Ent.rfl) : Ent _ (Tryd.asmH o X :: L)) w (h.l w s)⟩
    · clear hB hg
      refine con_of Tryd.tysOk Tryd.func55 rfl rfl ?_
      conv => whnf
      repeat' (first
        | ((with_reducible refine Br.dt ?_ ?_); (focus (first | assumption | omega)); conv => whnf)
        | ((with_reducible refine Ix.ad ?_ ?_ ?_); (focus (exact Rd.ad (by assumption))); (focus (omega)); conv => whnf)
        | ((apply Ld.rd0); (focus ((repeat (first | assumption | apply Rd.cons)); done)); (focus rfl); (focus (omega)); (focus rfl); conv => whnf)
        | ((with_reducible refine (?_ : Cl _ 67 _ _ _ _)); (refine Cl.pan (Tryd.asmArgsNo _ _ _ _ _ (by omega) (by omega) (by omega)) (fun ch L' h => ?_)); conv => whnf)
        | ((rw [hw0]); conv => whnf))
      all_goals first | (exfalso; omega) | exact ⟨h.ch, fun w s => (by (exact Ent.rfl) : Ent _ (Tryd.asmH o X :: L)) w (h.l w s)⟩
  · rw [if_neg (fun h => hB h.1)] at hg
    have hb0 : ¬ w0 = (⟨#[98, 121, 116, 101]⟩ : ByteArray) := hB
    by_cases hC : w0 = Go.Proofs.twoB
    · have b1' : w0 = (⟨#[116, 119, 111]⟩ : ByteArray) := hC
      by_cases b2 : ws.length = 2
      · rw [if_pos ⟨hC, b2⟩] at hg
        rcases val_cases nilL w1 with ⟨hw, e⟩ | ⟨hw, hn, e⟩ | ⟨hw, hn, e⟩
        · rw [e] at hg; cases hg
        · rw [e] at hg; cases hg
        · clear hB hC hg e
          refine con_of Tryd.tysOk Tryd.func55 rfl rfl ?_
          conv => whnf
          repeat' (first
            | (first | ((with_reducible refine Br.dt ?_ ?_); (focus (first | assumption | omega)); conv => whnf) | ((with_reducible refine Br.df ?_ ?_); (focus (first | assumption | omega)); conv => whnf))
            | ((with_reducible refine Ix.ad ?_ ?_ ?_); (focus (exact Rd.ad (by assumption))); (focus (omega)); conv => whnf)
            | ((apply Ld.rd0); (focus ((repeat (first | assumption | apply Rd.cons)); done)); (focus rfl); (focus (omega)); (focus rfl); conv => whnf)
            | (first | ((with_reducible refine (?_ : Cl _ 67 _ _ _ _)); (refine Cl.is (Tryd.asmArgs _ _ _ _ _ (by omega) (by omega)) ?_); conv => whnf) | ((with_reducible refine (?_ : Cl _ 69 _ _ _ _)); (apply (Cl.pre [Tryd.asmH o X]); (focus (repeat (exact FEnt.rfl)); done); refine Cl.pan (Tryd.asmValueNo o X w1 0 _ (by omega) hw hn) (fun ch L' h => ?_)); conv => whnf))
            | ((rw [hw0]); conv => whnf)
            | ((rw [hw1]); conv => whnf))
          all_goals first | (exfalso; omega) | exact ⟨h.ch, fun w s => (by (exact Ent.rfl) : Ent _ (Tryd.asmH o X :: L)) w (h.l w s)⟩
      · clear hB hC hg
        refine con_of Tryd.tysOk Tryd.func55 rfl rfl ?_
        conv => whnf
        repeat' (first
          | (first | ((with_reducible refine Br.dt ?_ ?_); (focus (first | assumption | omega)); conv => whnf) | ((with_reducible refine Br.df ?_ ?_); (focus (first | assumption | omega)); conv => whnf))
          | ((with_reducible refine Ix.ad ?_ ?_ ?_); (focus (exact Rd.ad (by assumption))); (focus (omega)); conv => whnf)
          | ((apply Ld.rd0); (focus ((repeat (first | assumption | apply Rd.cons)); done)); (focus rfl); (focus (omega)); (focus rfl); conv => whnf)
          | ((with_reducible refine (?_ : Cl _ 67 _ _ _ _)); (refine Cl.pan (Tryd.asmArgsNo _ _ _ _ _ (by omega) (by omega) (by omega)) (fun ch L' h => ?_)); conv => whnf)
          | ((rw [hw0]); conv => whnf))
        all_goals first | (exfalso; omega) | exact ⟨h.ch, fun w s => (by (exact Ent.rfl) : Ent _ (Tryd.asmH o X :: L)) w (h.l w s)⟩
    · rw [if_neg (fun h => hC h.1)] at hg
      have ht0 : ¬ w0 = (⟨#[116, 119, 111]⟩ : ByteArray) := hC
      have hcn := fun L => Tryd.codeNamed w0 L
      have hci := codeI_P w0
      by_cases hD : 0 ≤ codeI w0
      · rw [if_pos hD] at hg
        obtain ⟨c, hc⟩ : ∃ c : Nat, codeI w0 = c := ⟨(codeI w0).toNat, by omega⟩
        rw [decide_eq_true hD, hc, show max (c : Int) 0 = (c : Int) by omega] at hcn
        rw [hc] at hg
        have hR := insR_of (show c < 16 by omega) ws
        have hin := fun L h => Tryd.asmInstrNo o X c _ aw cw ws w1 _ L (by omega) h hN hw1 rfl z1 z2 hb hu hg hR
        clear hR hg hB hC
        refine con_of Tryd.tysOk Tryd.func55 rfl rfl ?_
        conv => whnf
        repeat' (first
          | (first | ((with_reducible refine Br.nt ?_); conv => whnf) | ((with_reducible refine Br.df ?_ ?_); (focus (first | assumption | omega)); conv => whnf))
          | ((with_reducible refine Nd.mk ?_ ?_); (focus (first | omega | rfl | assumption | (simp; done))); conv => whnf)
          | ((with_reducible refine Ix.ad ?_ ?_ ?_); (focus (exact Rd.ad (by assumption))); (focus (omega)); conv => whnf)
          | ((apply Ld.rd0); (focus ((repeat (first | assumption | apply Rd.cons)); done)); (focus rfl); (focus (omega)); (focus rfl); conv => whnf)
          | (first | ((with_reducible refine Cl.is (hcn _) ?_); conv => whnf) | ((with_reducible refine (?_ : Cl _ 72 _ _ _ _)); (apply (Cl.pre [Tryd.asmH o X]); (focus (repeat (exact FEnt.rfl)); done); refine Cl.pan (hin _ (by ((repeat (assumption)); done))) (fun ch L' h => ?_)); conv => whnf))
          | ((rw [hw0]); conv => whnf))
        all_goals first | (exfalso; omega) | exact ⟨h.ch, fun w s => (by (exact Ent.rfl) : Ent _ (Tryd.asmH o X :: L)) w (h.l w s)⟩
      · rw [decide_eq_false hD] at hcn
        clear hB hC hg
        refine con_of Tryd.tysOk Tryd.func55 rfl rfl ?_
        conv => whnf
        repeat' (first
          | (first | ((with_reducible refine Br.nf ?_); conv => whnf) | ((with_reducible refine Br.df ?_ ?_); (focus (first | assumption | omega)); conv => whnf))
          | ((with_reducible refine Nd.mk ?_ ?_); (focus (first | omega | rfl | assumption | (simp; done))); conv => whnf)
          | ((with_reducible refine Ix.ad ?_ ?_ ?_); (focus (exact Rd.ad (by assumption))); (focus (omega)); conv => whnf)
          | ((apply Ld.rd0); (focus ((repeat (first | assumption | apply Rd.cons)); done)); (focus rfl); (focus (omega)); (focus rfl); conv => whnf)
          | (first | ((with_reducible refine Cl.is (hcn _) ?_); conv => whnf) | ((with_reducible refine (?_ : Cl _ 46 _ _ _ _)); (refine Cl.pan (Tryd.asmGive _ _) (fun ch L' h => ?_)); conv => whnf))
          | ((rw [hw0]); conv => whnf))
        all_goals first | (exfalso; omega) | exact ⟨h.ch, fun w s => (by (exact Ent.rfl) : Ent _ (Tryd.asmH o X :: L)) w (h.l w s)⟩
end Go.Proofs
