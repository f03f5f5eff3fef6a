/- The document's reader of a line of a program's text: contract. -/
import Derived.Test.YtloaknocdnpedaaGreatDoorAsmC
set_option linter.all false
namespace Go.Proofs
open Go.Eng
open Classical
set_option linter.unusedVariables false
set_option maxRecDepth 100000
set_option maxHeartbeats 4000000
theorem Tryz.refCodeName (n : Nat) (L : List HP) (h : n < 16) : Con Tryz.prog 45 [qI n] L (Is (.string (codeN n)) L) := by
  have hn : n = 0 ∨ n = 1 ∨ n = 2 ∨ n = 3 ∨ n = 4 ∨ n = 5 ∨ n = 6 ∨ n = 7 ∨ n = 8 ∨ n = 9 ∨ n = 10 ∨ n = 11 ∨ n = 12 ∨ n = 13 ∨ n = 14 ∨ n = 15 := by omega
  rcases hn with rfl | rfl | rfl | rfl | rfl | rfl | rfl | rfl | rfl | rfl | rfl | rfl | rfl | rfl | rfl | rfl
  all_goals (
    refine con_of Tryz.tysOk Tryz.func45 rfl rfl ?_
    conv => whnf
    repeat' (first
      | (first | ((with_reducible refine Br.ff ?_); conv => whnf) | ((with_reducible refine Br.df ?_ ?_); (focus (first | assumption | omega)); conv => whnf))
      | ((with_reducible refine Nd.mk ?_ ?_); (focus (first | omega | rfl | assumption | (simp; done))); conv => whnf)
      | ((with_reducible refine Nc.go' (fun _ => ?_)); conv => whnf)
      | ((with_reducible refine Ix.ad ?_ ?_ ?_); (focus (exact fun _ => rfl)); (focus (omega)); conv => whnf)
      | (refine Ld.at 0 rfl rfl ?_; conv => whnf)
      | (refine St.at 0 rfl (by first | exact Nat.le_of_ble_eq_true rfl | (simp; done)) rfl ?_; conv => whnf))
    all_goals (refine Is.ent ?_ ?_; (focus (refine FEnt.ent ?_; (repeat (first | exact FEnt.rfl | refine FEnt.drop ?_)); done)); (exact Is.rfl)))
theorem wds_ge (l : List UInt8) : 1 ≤ (wds l).length := by simp [wds, splL]
theorem wds_le (s : ByteArray) : (wds s.data.toList).length ≤ s.size + 1 := by
  have hl := size_list s
  have := (spl_len 32 s.data.toList).2.2
  simp only [wds, splL, List.length_map, List.length_cons]
  omega
theorem wat_le (s : ByteArray) (i : Nat) : (wat (wds s.data.toList) i).size ≤ s.size := by
  have hl := size_list s
  obtain ⟨h1, h2, _⟩ := spl_len 32 s.data.toList
  unfold wat wds
  by_cases hi : i < (splL 32 s.data.toList).length
  · have e : ((splL 32 s.data.toList).map bsL).getD i strE.d = bsL ((splL 32 s.data.toList)[i]) := by simp [List.getD, hi]
    rw [e, bsL_size]
    have hm : (splL 32 s.data.toList)[i] ∈ splL 32 s.data.toList := List.getElem_mem _
    rcases List.mem_cons.1 hm with h | h
    · rw [h]; omega
    · have := h2 _ h; omega
  · have e : ((splL 32 s.data.toList).map bsL).getD i strE.d = strE.d := by
      rw [List.getD_eq_getElem?_getD, List.getElem?_eq_none (by simpa using hi)]
      rfl
    rw [e]
    exact Nat.zero_le _
/-- a line of words: the walk behind the split -/
theorem Tryz.refReadW (s : ByteArray) (ws : List ByteArray) (w0 w1 : ByteArray) (L : List HP) (hne : ¬ s = ⟨#[]⟩) (h35 : ¬ ((sAt s 0).toNat : Int) = 35) (hs1 : 1 ≤ s.size) (hN : ws.length ≤ 1000001) (hN2 : ws.length ≤ 100000) (h1 : 1 ≤ ws.length) (hs : ∀ i, (ws.getD i strE.d).size ≤ 1000000)
    (hw0 : ws.getD (Int.toNat 0) strE.d = w0) (hw1 : ws.getD (Int.toNat 1) strE.d = w1)
    (hsp : ∀ L, Con Tryz.prog 34 [.string s, qB 32] L (New strE 9 ws L)) : Con Tryz.prog 35 [.string s] L (Tryz.LnP (wlnF ws) L) := by
  have z0 : w0.size ≤ 1000000 := by rw [← hw0]; exact hs _
  have z1 : w1.size ≤ 1000000 := by rw [← hw1]; exact hs _
  have hix := fun (h : 1 ≤ w0.size) => (show Int.toNat ((w0.size : Int) - 1) = w0.size - 1 from by omega)
  have hle := fun (h : 1 ≤ w0.size) L => Tryz.refLetters (w0.extract 0 (w0.size - 1)) L (by rw [ByteArray.size_extract]; omega)
  have e0 : wlnF ws = (if ws.length = 1 ∧ labP w0 then ⟨w0.extract 0 (w0.size - 1), [], [], noB, false⟩
    else if w0 = byteB ∧ ws.length = 2 then ⟨noB, [numA w1 255], [1], noB, decide (numA w1 255 < 0)⟩
    else if w0 = twoB ∧ ws.length = 2 then valF nilL w1
    else if 0 ≤ codeI w0 then insF (codeI w0) ws else badL) := by rw [← hw0, ← hw1]; rfl
  rw [e0]
  clear e0
  have hci := codeI_P w0
  have hcn := fun (k : Nat) (h : k < 16) L => Tryz.refCodeName k L h
  have hci2 := fun (k : Nat) (h : k < 16) => code_iff (w := w0) h
  have hnm := fun L => Tryz.refNumber20 w1 255 L (by omega) (by omega)
  have hv := fun L => Tryz.refValue ⟨nilL, none, 0, none, 0⟩ w1 L ⟨Nat.le_refl _, fun h => absurd rfl h, Nat.le_refl _, fun h => absurd rfl h⟩ (by omega) (by exact Nat.le_of_ble_eq_true rfl) (by exact Nat.le_of_ble_eq_true rfl)
  by_cases hA : ws.length = 1 ∧ labP w0
  · rw [if_pos hA]
    obtain ⟨a1, a2, a3, a4⟩ := hA
    have hle := fun L => Con.dt a4 (hle (by omega) L)
    have hix := hix (by omega)
    have a3' : ((sAt w0 (w0.size - 1)).toNat : Int) = 58 := by omega
    clear hv hcn hci2 hnm hs a3 a4
    refine con_of Tryz.tysOk Tryz.func35 rfl rfl ?_
    conv => whnf
    repeat' (first
      | (first | ((with_reducible refine Br.tt ?_); conv => whnf) | ((with_reducible refine Br.ff ?_); conv => whnf) | ((with_reducible refine Br.dt ?_ ?_); (focus (first | assumption | omega)); conv => whnf) | ((with_reducible refine Br.df ?_ ?_); (focus (first | assumption | omega)); conv => whnf) | ((with_reducible refine Br.yes ?_ ?_); (focus (first | (simp; done) | (simp; omega))); conv => whnf))
      | ((with_reducible refine Ar.i64 ?_ ?_); (focus omega); conv => whnf)
      | ((with_reducible refine Nd.mk ?_ ?_); (focus (first | omega | rfl | assumption | (simp; done))); conv => whnf)
      | ((with_reducible refine Nc.go' (fun _ => ?_)); conv => whnf)
      | ((with_reducible refine Ix.ad ?_ ?_ ?_); (focus (assumption)); (focus (omega)); conv => whnf)
      | ((with_reducible refine SIx.mk' ?_ ?_); (focus (omega)); conv => whnf)
      | ((with_reducible refine SubS.pre ?_ ?_); (focus (omega)); conv => whnf)
      | ((apply Ld.rd0); (focus ((repeat ((refine Rd.own 0 rfl ?_); (assumption))); done)); (focus rfl); (focus (omega)); (focus rfl); conv => whnf)
      | (refine LdN.at 1 rfl (by first | exact Nat.le_of_ble_eq_true rfl | (simp; done)) ?_; conv => whnf)
      | (refine St.at 1 rfl (by first | exact Nat.le_of_ble_eq_true rfl | (simp; done)) rfl ?_; conv => whnf)
      | (first | ((with_reducible refine Cl.new (hsp _) (fun _ _ _ _ => ?_)); conv => whnf) | ((with_reducible refine Cl.is (hle _) ?_); conv => whnf))
      | ((rw [hw0]); conv => whnf)
      | ((rw [hix]); conv => whnf))
    all_goals first | (exfalso; omega) | exact Exs.of (⟨⟨w0.extract 0 (w0.size - 1), [], [], noB, false⟩, none, 0, none, 0⟩ : LnV) (fun w s => Ent.nil w (Ent.nil w ((by (refine FEnt.ent ?_; (repeat (first | exact FEnt.rfl | refine FEnt.drop ?_)); done) : Ent _ L) w s))) ⟨rfl, ⟨Nat.le_refl _, fun h => absurd rfl h, Nat.le_refl _, fun h => absurd rfl h⟩⟩ rfl
  · rw [if_neg hA]
    by_cases hB : w0 = byteB ∧ ws.length = 2
    · rw [if_pos hB]
      obtain ⟨b1, b2⟩ := hB
      have b1' : w0 = (⟨#[98, 121, 116, 101]⟩ : ByteArray) := b1
      clear hv hcn hci2 hs hle hix hA b1
      refine con_of Tryz.tysOk Tryz.func35 rfl rfl ?_
      conv => whnf
      repeat' (first
        | (first | ((with_reducible refine Br.tt ?_); conv => whnf) | ((with_reducible refine Br.ff ?_); conv => whnf) | ((with_reducible refine Br.dt ?_ ?_); (focus (first | assumption | omega)); conv => whnf) | ((with_reducible refine Br.df ?_ ?_); (focus (first | assumption | omega)); conv => whnf))
        | ((with_reducible refine Nd.mk ?_ ?_); (focus (first | omega | rfl | assumption | (simp; done))); conv => whnf)
        | ((with_reducible refine Nc.go' (fun _ => ?_)); conv => whnf)
        | ((with_reducible refine Ix.ad ?_ ?_ ?_); (focus (assumption)); (focus (omega)); conv => whnf)
        | ((with_reducible refine SIx.mk' ?_ ?_); (focus (omega)); conv => whnf)
        | ((apply Ld.rd0); (focus ((repeat ((refine Rd.own 0 rfl ?_); (assumption))); done)); (focus rfl); (focus (omega)); (focus rfl); conv => whnf)
        | (refine LdN.at 3 rfl (by first | exact Nat.le_of_ble_eq_true rfl | (simp; done)) ?_; conv => whnf)
        | (refine St.at 3 rfl (by first | exact Nat.le_of_ble_eq_true rfl | (simp; done)) rfl ?_; conv => whnf)
        | (first | ((with_reducible refine Cl.new (hsp _) (fun _ _ _ _ => ?_)); conv => whnf) | ((with_reducible refine Cl.is (hnm _) ?_); conv => whnf))
        | ((rw [hw0]); conv => whnf)
        | ((rw [hw1]); conv => whnf))
      all_goals try (exfalso; omega)
      all_goals (
        rename_i b5 b6
        exact Exs.of (⟨⟨noB, [numA w1 255], [1], noB, decide (numA w1 255 < 0)⟩, some ⟨b5, 0, none⟩, 1, some ⟨b6, 0, none⟩, 1⟩ : LnV) (by (try dsimp only); (refine FEnt.ent ?_; (repeat (first | exact FEnt.rfl | (refine FEnt.lit 0 rfl rfl rfl rfl ?_; (try simp only [List.eraseIdx_cons_zero, List.eraseIdx_cons_succ, List.eraseIdx_zero, List.tail_cons])) | (refine FEnt.lit 1 rfl rfl rfl rfl ?_; (try simp only [List.eraseIdx_cons_zero, List.eraseIdx_cons_succ, List.eraseIdx_zero, List.tail_cons])) | refine FEnt.drop ?_)); done)) ⟨rfl, ⟨Nat.le_refl _, fun _ => rfl, Nat.le_refl _, fun _ => rfl⟩⟩ rfl)
    · rw [if_neg hB]
      by_cases hC : w0 = twoB ∧ ws.length = 2
      · rw [if_pos hC]
        obtain ⟨b1, b2⟩ := hC
        have b1' : w0 = (⟨#[116, 119, 111]⟩ : ByteArray) := b1
        have b3 : ¬ w0 = (⟨#[98, 121, 116, 101]⟩ : ByteArray) := fun h => by rw [b1'] at h; exact absurd h (by decide)
        clear hcn hci2 hs hle hix hA hB b1
        refine con_of Tryz.tysOk Tryz.func35 rfl rfl ?_
        conv => whnf
        repeat' (first
          | (first | ((with_reducible refine Br.tt ?_); conv => whnf) | ((with_reducible refine Br.ff ?_); conv => whnf) | ((with_reducible refine Br.dt ?_ ?_); (focus (first | assumption | omega)); conv => whnf) | ((with_reducible refine Br.df ?_ ?_); (focus (first | assumption | omega)); conv => whnf))
          | ((with_reducible refine Nd.mk ?_ ?_); (focus (first | omega | rfl | assumption | (simp; done))); conv => whnf)
          | ((with_reducible refine Nc.go' (fun _ => ?_)); conv => whnf)
          | ((with_reducible refine Ix.ad ?_ ?_ ?_); (focus (assumption)); (focus (omega)); conv => whnf)
          | ((with_reducible refine SIx.mk' ?_ ?_); (focus (omega)); conv => whnf)
          | ((apply Ld.rd0); (focus ((repeat ((refine Rd.own 0 rfl ?_); (assumption))); done)); (focus rfl); (focus (omega)); (focus rfl); conv => whnf)
          | (refine LdN.at 3 rfl (by first | exact Nat.le_of_ble_eq_true rfl | (simp; done)) ?_; conv => whnf)
          | (refine St.at 3 rfl (by first | exact Nat.le_of_ble_eq_true rfl | (simp; done)) rfl ?_; conv => whnf)
          | (first | ((with_reducible refine Cl.new (hsp _) (fun _ _ _ _ => ?_)); conv => whnf) | (apply (Cl.pre [own numE 3 none 0 [], own numE 3 none 0 []]); (focus ((repeat (first | exact FEnt.rfl | refine FEnt.nil ?_)); done)); refine Cl.exs (hv _) ?_; rintro y ⟨hy, hw⟩; conv => whnf))
          | ((rw [hw0]); conv => whnf)
          | ((rw [hw1]); conv => whnf))
        all_goals first | (exfalso; omega) | exact Exs.of (y : LnV) (by (try dsimp only); (refine FEnt.ent ?_; (repeat (first | exact FEnt.rfl | (refine FEnt.at 0 rfl ?_; (try simp only [List.eraseIdx_cons_zero, List.eraseIdx_cons_succ, List.eraseIdx_zero, List.tail_cons])) | refine FEnt.drop ?_)); done)) ⟨hy, hw⟩ rfl
      · rw [if_neg hC]
        have hin := fun (k : Nat) (hk : k < 16) a c L h => Tryz.refInstr k a c ws L hk h hN2 hs
        clear hv hnm hs
        by_cases hb : w0 = byteB
        · by_cases hl : ws.length = 1
          · skip
            have x1 : w0 = (⟨#[98, 121, 116, 101]⟩ : ByteArray) := hb
            have x2 : ¬ w0 = (⟨#[116, 119, 111]⟩ : ByteArray) := fun h => by rw [x1] at h; exact absurd h (by decide)
            have x3 : ¬ ((sAt w0 (w0.size - 1)).toNat : Int) = 58 := by rw [x1]; decide
            have x4 : w0.size = 4 := by rw [x1]; rfl
            have x5 : ¬ ws.length = 2 := fun h => hB ⟨hb, h⟩
            have hix := hix (by omega)
            clear hA hB hC hle hb
            refine con_of Tryz.tysOk Tryz.func35 rfl rfl ?_
            conv => whnf
            repeat' (first
              | (first | ((with_reducible refine Br.tt ?_); conv => whnf) | ((with_reducible refine Br.ff ?_); conv => whnf) | ((with_reducible refine Br.dt ?_ ?_); (focus (first | assumption | omega)); conv => whnf) | ((with_reducible refine Br.df ?_ ?_); (focus (first | assumption | omega)); conv => whnf) | ((with_reducible refine Br.no ?_ ?_); (focus (first | (simp; done) | (simp; omega))); conv => whnf))
              | ((with_reducible refine Ar.i64 ?_ ?_); (focus omega); conv => whnf)
              | ((with_reducible refine Nc.go' (fun _ => ?_)); conv => whnf)
              | ((with_reducible refine Ix.ad ?_ ?_ ?_); (focus (assumption)); (focus (omega)); conv => whnf)
              | ((with_reducible refine SIx.mk' ?_ ?_); (focus (omega)); conv => whnf)
              | ((apply Ld.rd0); (focus ((repeat ((refine Rd.own 0 rfl ?_); (assumption))); done)); (focus rfl); (focus (omega)); (focus rfl); conv => whnf)
              | ((with_reducible refine Cl.new (hsp _) (fun _ _ _ _ => ?_)); conv => whnf)
              | ((rw [hix]); conv => whnf)
              | ((rw [hw0]); conv => whnf))
            all_goals try (exfalso; omega)
            rename_i b2 aw cw hcw hdw
            conv => whnf
            refine Lp.by Tryz.tysOk [6] (fun (k : Nat) => [.int .i64 k]) (fun k => ptc b2 59 [.string .empty, .slice none 0 0, .slice none 0 0, .string .empty, .bool false] :: own strE 9 aw cw ws :: L) (fun k => k ≤ 16 ∧ ∀ j : Nat, j < k → ¬ codeI w0 = (j : Int)) (fun k => 16 - k) (0) (by kernel_rfl) (by (refine FEnt.ent ?_; (repeat (first | exact FEnt.rfl | (refine FEnt.at 1 rfl ?_; (try simp only [List.eraseIdx_cons_zero, List.eraseIdx_cons_succ, List.eraseIdx_zero, List.tail_cons])))); done)) (⟨by omega, fun j hj => by omega⟩) ?_
            rintro k ⟨g1, g2⟩
            conv => whnf
            repeat (intro _; conv => whnf)
            by_cases hk : k < 16
            · have hcn := hcn k hk
              by_cases he : codeI w0 = (k : Int)
              · have f1 := (hci2 k hk).2 he
                rw [if_pos (by omega), he]
                have hin := fun a c L h => hin k hk a c L h
                clear g2 hci2
                conv => whnf
                repeat' (first
                  | ((with_reducible refine Br.dt ?_ ?_); (focus (first | assumption | omega)); conv => whnf)
                  | ((with_reducible refine Nd.mk ?_ ?_); (focus (first | omega | rfl | assumption | (simp; done))); conv => whnf)
                  | ((with_reducible refine Ix.ad ?_ ?_ ?_); (focus (assumption)); (focus (omega)); conv => whnf)
                  | ((apply Ld.rd0); (focus ((repeat ((refine Rd.own 1 rfl ?_); (assumption))); done)); (focus rfl); (focus (omega)); (focus rfl); conv => whnf)
                  | (refine LdN.at 2 rfl (by first | exact Nat.le_of_ble_eq_true rfl | (simp; done)) ?_; conv => whnf)
                  | (refine St.at 2 rfl (by first | exact Nat.le_of_ble_eq_true rfl | (simp; done)) rfl ?_; conv => whnf)
                  | ((with_reducible refine Dr.by (id := 15) Tryz.tysOk rfl [(0, 0), (2, 0), (3, 0), (1, 1), (4, 1), (5, 0)] ?_ ?_); (focus kernel_rfl); conv => whnf)
                  | ((with_reducible refine CD.is (fun M => hcn _) ?_); conv => whnf)
                  | ((with_reducible refine Cl.exs (hin _ _ _ (by ((repeat ((refine Rd.own 1 rfl ?_); (assumption))); done))) (fun y ⟨hy, hw⟩ => ?_)); conv => whnf)
                  | ((rw [hw0]); conv => whnf))
                all_goals first | (exfalso; omega) | exact Exs.of (y : LnV) (by (try dsimp only); (refine FEnt.ent ?_; (repeat (first | exact FEnt.rfl | (refine FEnt.at 0 rfl ?_; (try simp only [List.eraseIdx_cons_zero, List.eraseIdx_cons_succ, List.eraseIdx_zero, List.tail_cons])) | refine FEnt.drop ?_)); done)) ⟨hy, hw⟩ rfl
              · have f1 : ¬ codeN k = w0 := fun h => he ((hci2 k hk).1 h)
                have g3 := lt_step g2 he
                clear g2 hci2 hin
                conv => whnf
                repeat' (first
                  | (first | ((with_reducible refine Br.dt ?_ ?_); (focus (first | assumption | omega)); conv => whnf) | ((with_reducible refine Br.df ?_ ?_); (focus (first | assumption | omega)); conv => whnf))
                  | ((with_reducible refine Ar.i64 ?_ ?_); (focus omega); conv => whnf)
                  | ((with_reducible refine Ix.ad ?_ ?_ ?_); (focus (assumption)); (focus (omega)); conv => whnf)
                  | ((apply Ld.rd0); (focus ((repeat ((refine Rd.own 1 rfl ?_); (assumption))); done)); (focus rfl); (focus (omega)); (focus rfl); conv => whnf)
                  | ((with_reducible refine Dr.by (id := 15) Tryz.tysOk rfl [(0, 0), (2, 0), (3, 0), (1, 1), (4, 1), (5, 0)] ?_ ?_); (focus kernel_rfl); conv => whnf)
                  | ((with_reducible refine CD.is (fun M => hcn _) ?_); conv => whnf)
                  | ((rw [hw0]); conv => whnf))
                all_goals first | (exfalso; omega) | exact ⟨k + 1, by kernel_rfl, by (exact Ent.rfl), ⟨by omega, g3⟩, by omega⟩
            · have hno : codeI w0 = -1 := Classical.byContradiction fun h => g2 (codeI w0).toNat (by omega) (by omega)
              rw [if_neg (by omega)]
              clear g2 hcn hci2 hin
              conv => whnf
              repeat' (first
                | ((with_reducible refine Br.df ?_ ?_); (focus (first | assumption | omega)); conv => whnf)
                | ((with_reducible refine Nd.mk ?_ ?_); (focus (first | omega | rfl | assumption | (simp; done))); conv => whnf)
                | (refine LdN.at 0 rfl (by first | exact Nat.le_of_ble_eq_true rfl | (simp; done)) ?_; conv => whnf)
                | (refine St.at 0 rfl (by first | exact Nat.le_of_ble_eq_true rfl | (simp; done)) rfl ?_; conv => whnf))
              all_goals first | (exfalso; omega) | exact Tryz.LnP.bad (by (refine FEnt.ent ?_; (repeat (first | exact FEnt.rfl | refine FEnt.drop ?_)); done))
          · skip
            have x1 : w0 = (⟨#[98, 121, 116, 101]⟩ : ByteArray) := hb
            have x2 : ¬ w0 = (⟨#[116, 119, 111]⟩ : ByteArray) := fun h => by rw [x1] at h; exact absurd h (by decide)
            have x3 : ¬ ((sAt w0 (w0.size - 1)).toNat : Int) = 58 := by rw [x1]; decide
            have x4 : w0.size = 4 := by rw [x1]; rfl
            have x5 : ¬ ws.length = 2 := fun h => hB ⟨hb, h⟩
            have hix := hix (by omega)
            clear hA hB hC hle hb
            refine con_of Tryz.tysOk Tryz.func35 rfl rfl ?_
            conv => whnf
            repeat' (first
              | (first | ((with_reducible refine Br.tt ?_); conv => whnf) | ((with_reducible refine Br.ff ?_); conv => whnf) | ((with_reducible refine Br.dt ?_ ?_); (focus (first | assumption | omega)); conv => whnf) | ((with_reducible refine Br.df ?_ ?_); (focus (first | assumption | omega)); conv => whnf))
              | ((with_reducible refine Nc.go' (fun _ => ?_)); conv => whnf)
              | ((with_reducible refine Ix.ad ?_ ?_ ?_); (focus (assumption)); (focus (omega)); conv => whnf)
              | ((with_reducible refine SIx.mk' ?_ ?_); (focus (omega)); conv => whnf)
              | ((apply Ld.rd0); (focus ((repeat ((refine Rd.own 0 rfl ?_); (assumption))); done)); (focus rfl); (focus (omega)); (focus rfl); conv => whnf)
              | ((with_reducible refine Cl.new (hsp _) (fun _ _ _ _ => ?_)); conv => whnf)
              | ((rw [hw0]); conv => whnf))
            all_goals try (exfalso; omega)
            rename_i b2 aw cw hcw hdw
            conv => whnf
            refine Lp.by Tryz.tysOk [6] (fun (k : Nat) => [.int .i64 k]) (fun k => ptc b2 59 [.string .empty, .slice none 0 0, .slice none 0 0, .string .empty, .bool false] :: own strE 9 aw cw ws :: L) (fun k => k ≤ 16 ∧ ∀ j : Nat, j < k → ¬ codeI w0 = (j : Int)) (fun k => 16 - k) (0) (by kernel_rfl) (by (refine FEnt.ent ?_; (repeat (first | exact FEnt.rfl | (refine FEnt.at 1 rfl ?_; (try simp only [List.eraseIdx_cons_zero, List.eraseIdx_cons_succ, List.eraseIdx_zero, List.tail_cons])))); done)) (⟨by omega, fun j hj => by omega⟩) ?_
            rintro k ⟨g1, g2⟩
            conv => whnf
            repeat (intro _; conv => whnf)
            by_cases hk : k < 16
            · have hcn := hcn k hk
              by_cases he : codeI w0 = (k : Int)
              · have f1 := (hci2 k hk).2 he
                rw [if_pos (by omega), he]
                have hin := fun a c L h => hin k hk a c L h
                clear g2 hci2
                conv => whnf
                repeat' (first
                  | ((with_reducible refine Br.dt ?_ ?_); (focus (first | assumption | omega)); conv => whnf)
                  | ((with_reducible refine Nd.mk ?_ ?_); (focus (first | omega | rfl | assumption | (simp; done))); conv => whnf)
                  | ((with_reducible refine Ix.ad ?_ ?_ ?_); (focus (assumption)); (focus (omega)); conv => whnf)
                  | ((apply Ld.rd0); (focus ((repeat ((refine Rd.own 1 rfl ?_); (assumption))); done)); (focus rfl); (focus (omega)); (focus rfl); conv => whnf)
                  | (refine LdN.at 2 rfl (by first | exact Nat.le_of_ble_eq_true rfl | (simp; done)) ?_; conv => whnf)
                  | (refine St.at 2 rfl (by first | exact Nat.le_of_ble_eq_true rfl | (simp; done)) rfl ?_; conv => whnf)
                  | ((with_reducible refine Dr.by (id := 15) Tryz.tysOk rfl [(0, 0), (2, 0), (3, 0), (1, 1), (4, 1), (5, 0)] ?_ ?_); (focus kernel_rfl); conv => whnf)
                  | ((with_reducible refine CD.is (fun M => hcn _) ?_); conv => whnf)
                  | ((with_reducible refine Cl.exs (hin _ _ _ (by ((repeat ((refine Rd.own 1 rfl ?_); (assumption))); done))) (fun y ⟨hy, hw⟩ => ?_)); conv => whnf)
                  | ((rw [hw0]); conv => whnf))
                all_goals first | (exfalso; omega) | exact Exs.of (y : LnV) (by (try dsimp only); (refine FEnt.ent ?_; (repeat (first | exact FEnt.rfl | (refine FEnt.at 0 rfl ?_; (try simp only [List.eraseIdx_cons_zero, List.eraseIdx_cons_succ, List.eraseIdx_zero, List.tail_cons])) | refine FEnt.drop ?_)); done)) ⟨hy, hw⟩ rfl
              · have f1 : ¬ codeN k = w0 := fun h => he ((hci2 k hk).1 h)
                have g3 := lt_step g2 he
                clear g2 hci2 hin
                conv => whnf
                repeat' (first
                  | (first | ((with_reducible refine Br.dt ?_ ?_); (focus (first | assumption | omega)); conv => whnf) | ((with_reducible refine Br.df ?_ ?_); (focus (first | assumption | omega)); conv => whnf))
                  | ((with_reducible refine Ar.i64 ?_ ?_); (focus omega); conv => whnf)
                  | ((with_reducible refine Ix.ad ?_ ?_ ?_); (focus (assumption)); (focus (omega)); conv => whnf)
                  | ((apply Ld.rd0); (focus ((repeat ((refine Rd.own 1 rfl ?_); (assumption))); done)); (focus rfl); (focus (omega)); (focus rfl); conv => whnf)
                  | ((with_reducible refine Dr.by (id := 15) Tryz.tysOk rfl [(0, 0), (2, 0), (3, 0), (1, 1), (4, 1), (5, 0)] ?_ ?_); (focus kernel_rfl); conv => whnf)
                  | ((with_reducible refine CD.is (fun M => hcn _) ?_); conv => whnf)
                  | ((rw [hw0]); conv => whnf))
                all_goals first | (exfalso; omega) | exact ⟨k + 1, by kernel_rfl, by (exact Ent.rfl), ⟨by omega, g3⟩, by omega⟩
            · have hno : codeI w0 = -1 := Classical.byContradiction fun h => g2 (codeI w0).toNat (by omega) (by omega)
              rw [if_neg (by omega)]
              clear g2 hcn hci2 hin
              conv => whnf
              repeat' (first
                | ((with_reducible refine Br.df ?_ ?_); (focus (first | assumption | omega)); conv => whnf)
                | ((with_reducible refine Nd.mk ?_ ?_); (focus (first | omega | rfl | assumption | (simp; done))); conv => whnf)
                | (refine LdN.at 0 rfl (by first | exact Nat.le_of_ble_eq_true rfl | (simp; done)) ?_; conv => whnf)
                | (refine St.at 0 rfl (by first | exact Nat.le_of_ble_eq_true rfl | (simp; done)) rfl ?_; conv => whnf))
              all_goals first | (exfalso; omega) | exact Tryz.LnP.bad (by (refine FEnt.ent ?_; (repeat (first | exact FEnt.rfl | refine FEnt.drop ?_)); done))
        · by_cases hc : w0 = twoB
          · by_cases hl : ws.length = 1
            · skip
              have x2 : w0 = (⟨#[116, 119, 111]⟩ : ByteArray) := hc
              have x1 : ¬ w0 = (⟨#[98, 121, 116, 101]⟩ : ByteArray) := hb
              have x3 : ¬ ((sAt w0 (w0.size - 1)).toNat : Int) = 58 := by rw [x2]; decide
              have x4 : w0.size = 3 := by rw [x2]; rfl
              have x5 : ¬ ws.length = 2 := fun h => hC ⟨hc, h⟩
              have hix := hix (by omega)
              clear hA hB hC hle hb hc
              refine con_of Tryz.tysOk Tryz.func35 rfl rfl ?_
              conv => whnf
              repeat' (first
                | (first | ((with_reducible refine Br.tt ?_); conv => whnf) | ((with_reducible refine Br.ff ?_); conv => whnf) | ((with_reducible refine Br.dt ?_ ?_); (focus (first | assumption | omega)); conv => whnf) | ((with_reducible refine Br.df ?_ ?_); (focus (first | assumption | omega)); conv => whnf) | ((with_reducible refine Br.no ?_ ?_); (focus (first | (simp; done) | (simp; omega))); conv => whnf))
                | ((with_reducible refine Ar.i64 ?_ ?_); (focus omega); conv => whnf)
                | ((with_reducible refine Nc.go' (fun _ => ?_)); conv => whnf)
                | ((with_reducible refine Ix.ad ?_ ?_ ?_); (focus (assumption)); (focus (omega)); conv => whnf)
                | ((with_reducible refine SIx.mk' ?_ ?_); (focus (omega)); conv => whnf)
                | ((apply Ld.rd0); (focus ((repeat ((refine Rd.own 0 rfl ?_); (assumption))); done)); (focus rfl); (focus (omega)); (focus rfl); conv => whnf)
                | ((with_reducible refine Cl.new (hsp _) (fun _ _ _ _ => ?_)); conv => whnf)
                | ((rw [hix]); conv => whnf)
                | ((rw [hw0]); conv => whnf))
              all_goals try (exfalso; omega)
              rename_i b2 aw cw hcw hdw
              conv => whnf
              refine Lp.by Tryz.tysOk [6] (fun (k : Nat) => [.int .i64 k]) (fun k => ptc b2 59 [.string .empty, .slice none 0 0, .slice none 0 0, .string .empty, .bool false] :: own strE 9 aw cw ws :: L) (fun k => k ≤ 16 ∧ ∀ j : Nat, j < k → ¬ codeI w0 = (j : Int)) (fun k => 16 - k) (0) (by kernel_rfl) (by (refine FEnt.ent ?_; (repeat (first | exact FEnt.rfl | (refine FEnt.at 1 rfl ?_; (try simp only [List.eraseIdx_cons_zero, List.eraseIdx_cons_succ, List.eraseIdx_zero, List.tail_cons])))); done)) (⟨by omega, fun j hj => by omega⟩) ?_
              rintro k ⟨g1, g2⟩
              conv => whnf
              repeat (intro _; conv => whnf)
              by_cases hk : k < 16
              · have hcn := hcn k hk
                by_cases he : codeI w0 = (k : Int)
                · have f1 := (hci2 k hk).2 he
                  rw [if_pos (by omega), he]
                  have hin := fun a c L h => hin k hk a c L h
                  clear g2 hci2
                  conv => whnf
                  repeat' (first
                    | ((with_reducible refine Br.dt ?_ ?_); (focus (first | assumption | omega)); conv => whnf)
                    | ((with_reducible refine Nd.mk ?_ ?_); (focus (first | omega | rfl | assumption | (simp; done))); conv => whnf)
                    | ((with_reducible refine Ix.ad ?_ ?_ ?_); (focus (assumption)); (focus (omega)); conv => whnf)
                    | ((apply Ld.rd0); (focus ((repeat ((refine Rd.own 1 rfl ?_); (assumption))); done)); (focus rfl); (focus (omega)); (focus rfl); conv => whnf)
                    | (refine LdN.at 2 rfl (by first | exact Nat.le_of_ble_eq_true rfl | (simp; done)) ?_; conv => whnf)
                    | (refine St.at 2 rfl (by first | exact Nat.le_of_ble_eq_true rfl | (simp; done)) rfl ?_; conv => whnf)
                    | ((with_reducible refine Dr.by (id := 15) Tryz.tysOk rfl [(0, 0), (2, 0), (3, 0), (1, 1), (4, 1), (5, 0)] ?_ ?_); (focus kernel_rfl); conv => whnf)
                    | ((with_reducible refine CD.is (fun M => hcn _) ?_); conv => whnf)
                    | ((with_reducible refine Cl.exs (hin _ _ _ (by ((repeat ((refine Rd.own 1 rfl ?_); (assumption))); done))) (fun y ⟨hy, hw⟩ => ?_)); conv => whnf)
                    | ((rw [hw0]); conv => whnf))
                  all_goals first | (exfalso; omega) | exact Exs.of (y : LnV) (by (try dsimp only); (refine FEnt.ent ?_; (repeat (first | exact FEnt.rfl | (refine FEnt.at 0 rfl ?_; (try simp only [List.eraseIdx_cons_zero, List.eraseIdx_cons_succ, List.eraseIdx_zero, List.tail_cons])) | refine FEnt.drop ?_)); done)) ⟨hy, hw⟩ rfl
                · have f1 : ¬ codeN k = w0 := fun h => he ((hci2 k hk).1 h)
                  have g3 := lt_step g2 he
                  clear g2 hci2 hin
                  conv => whnf
                  repeat' (first
                    | (first | ((with_reducible refine Br.dt ?_ ?_); (focus (first | assumption | omega)); conv => whnf) | ((with_reducible refine Br.df ?_ ?_); (focus (first | assumption | omega)); conv => whnf))
                    | ((with_reducible refine Ar.i64 ?_ ?_); (focus omega); conv => whnf)
                    | ((with_reducible refine Ix.ad ?_ ?_ ?_); (focus (assumption)); (focus (omega)); conv => whnf)
                    | ((apply Ld.rd0); (focus ((repeat ((refine Rd.own 1 rfl ?_); (assumption))); done)); (focus rfl); (focus (omega)); (focus rfl); conv => whnf)
                    | ((with_reducible refine Dr.by (id := 15) Tryz.tysOk rfl [(0, 0), (2, 0), (3, 0), (1, 1), (4, 1), (5, 0)] ?_ ?_); (focus kernel_rfl); conv => whnf)
                    | ((with_reducible refine CD.is (fun M => hcn _) ?_); conv => whnf)
                    | ((rw [hw0]); conv => whnf))
                  all_goals first | (exfalso; omega) | exact ⟨k + 1, by kernel_rfl, by (exact Ent.rfl), ⟨by omega, g3⟩, by omega⟩
              · have hno : codeI w0 = -1 := Classical.byContradiction fun h => g2 (codeI w0).toNat (by omega) (by omega)
                rw [if_neg (by omega)]
                clear g2 hcn hci2 hin
                conv => whnf
                repeat' (first
                  | ((with_reducible refine Br.df ?_ ?_); (focus (first | assumption | omega)); conv => whnf)
                  | ((with_reducible refine Nd.mk ?_ ?_); (focus (first | omega | rfl | assumption | (simp; done))); conv => whnf)
                  | (refine LdN.at 0 rfl (by first | exact Nat.le_of_ble_eq_true rfl | (simp; done)) ?_; conv => whnf)
                  | (refine St.at 0 rfl (by first | exact Nat.le_of_ble_eq_true rfl | (simp; done)) rfl ?_; conv => whnf))
                all_goals first | (exfalso; omega) | exact Tryz.LnP.bad (by (refine FEnt.ent ?_; (repeat (first | exact FEnt.rfl | refine FEnt.drop ?_)); done))
            · skip
              have x2 : w0 = (⟨#[116, 119, 111]⟩ : ByteArray) := hc
              have x1 : ¬ w0 = (⟨#[98, 121, 116, 101]⟩ : ByteArray) := hb
              have x3 : ¬ ((sAt w0 (w0.size - 1)).toNat : Int) = 58 := by rw [x2]; decide
              have x4 : w0.size = 3 := by rw [x2]; rfl
              have x5 : ¬ ws.length = 2 := fun h => hC ⟨hc, h⟩
              have hix := hix (by omega)
              clear hA hB hC hle hb hc
              refine con_of Tryz.tysOk Tryz.func35 rfl rfl ?_
              conv => whnf
              repeat' (first
                | (first | ((with_reducible refine Br.tt ?_); conv => whnf) | ((with_reducible refine Br.ff ?_); conv => whnf) | ((with_reducible refine Br.dt ?_ ?_); (focus (first | assumption | omega)); conv => whnf) | ((with_reducible refine Br.df ?_ ?_); (focus (first | assumption | omega)); conv => whnf))
                | ((with_reducible refine Nc.go' (fun _ => ?_)); conv => whnf)
                | ((with_reducible refine Ix.ad ?_ ?_ ?_); (focus (assumption)); (focus (omega)); conv => whnf)
                | ((with_reducible refine SIx.mk' ?_ ?_); (focus (omega)); conv => whnf)
                | ((apply Ld.rd0); (focus ((repeat ((refine Rd.own 0 rfl ?_); (assumption))); done)); (focus rfl); (focus (omega)); (focus rfl); conv => whnf)
                | ((with_reducible refine Cl.new (hsp _) (fun _ _ _ _ => ?_)); conv => whnf)
                | ((rw [hw0]); conv => whnf))
              all_goals try (exfalso; omega)
              rename_i b2 aw cw hcw hdw
              conv => whnf
              refine Lp.by Tryz.tysOk [6] (fun (k : Nat) => [.int .i64 k]) (fun k => ptc b2 59 [.string .empty, .slice none 0 0, .slice none 0 0, .string .empty, .bool false] :: own strE 9 aw cw ws :: L) (fun k => k ≤ 16 ∧ ∀ j : Nat, j < k → ¬ codeI w0 = (j : Int)) (fun k => 16 - k) (0) (by kernel_rfl) (by (refine FEnt.ent ?_; (repeat (first | exact FEnt.rfl | (refine FEnt.at 1 rfl ?_; (try simp only [List.eraseIdx_cons_zero, List.eraseIdx_cons_succ, List.eraseIdx_zero, List.tail_cons])))); done)) (⟨by omega, fun j hj => by omega⟩) ?_
              rintro k ⟨g1, g2⟩
              conv => whnf
              repeat (intro _; conv => whnf)
              by_cases hk : k < 16
              · have hcn := hcn k hk
                by_cases he : codeI w0 = (k : Int)
                · have f1 := (hci2 k hk).2 he
                  rw [if_pos (by omega), he]
                  have hin := fun a c L h => hin k hk a c L h
                  clear g2 hci2
                  conv => whnf
                  repeat' (first
                    | ((with_reducible refine Br.dt ?_ ?_); (focus (first | assumption | omega)); conv => whnf)
                    | ((with_reducible refine Nd.mk ?_ ?_); (focus (first | omega | rfl | assumption | (simp; done))); conv => whnf)
                    | ((with_reducible refine Ix.ad ?_ ?_ ?_); (focus (assumption)); (focus (omega)); conv => whnf)
                    | ((apply Ld.rd0); (focus ((repeat ((refine Rd.own 1 rfl ?_); (assumption))); done)); (focus rfl); (focus (omega)); (focus rfl); conv => whnf)
                    | (refine LdN.at 2 rfl (by first | exact Nat.le_of_ble_eq_true rfl | (simp; done)) ?_; conv => whnf)
                    | (refine St.at 2 rfl (by first | exact Nat.le_of_ble_eq_true rfl | (simp; done)) rfl ?_; conv => whnf)
                    | ((with_reducible refine Dr.by (id := 15) Tryz.tysOk rfl [(0, 0), (2, 0), (3, 0), (1, 1), (4, 1), (5, 0)] ?_ ?_); (focus kernel_rfl); conv => whnf)
                    | ((with_reducible refine CD.is (fun M => hcn _) ?_); conv => whnf)
                    | ((with_reducible refine Cl.exs (hin _ _ _ (by ((repeat ((refine Rd.own 1 rfl ?_); (assumption))); done))) (fun y ⟨hy, hw⟩ => ?_)); conv => whnf)
                    | ((rw [hw0]); conv => whnf))
                  all_goals first | (exfalso; omega) | exact Exs.of (y : LnV) (by (try dsimp only); (refine FEnt.ent ?_; (repeat (first | exact FEnt.rfl | (refine FEnt.at 0 rfl ?_; (try simp only [List.eraseIdx_cons_zero, List.eraseIdx_cons_succ, List.eraseIdx_zero, List.tail_cons])) | refine FEnt.drop ?_)); done)) ⟨hy, hw⟩ rfl
                · have f1 : ¬ codeN k = w0 := fun h => he ((hci2 k hk).1 h)
                  have g3 := lt_step g2 he
                  clear g2 hci2 hin
                  conv => whnf
                  repeat' (first
                    | (first | ((with_reducible refine Br.dt ?_ ?_); (focus (first | assumption | omega)); conv => whnf) | ((with_reducible refine Br.df ?_ ?_); (focus (first | assumption | omega)); conv => whnf))
                    | ((with_reducible refine Ar.i64 ?_ ?_); (focus omega); conv => whnf)
                    | ((with_reducible refine Ix.ad ?_ ?_ ?_); (focus (assumption)); (focus (omega)); conv => whnf)
                    | ((apply Ld.rd0); (focus ((repeat ((refine Rd.own 1 rfl ?_); (assumption))); done)); (focus rfl); (focus (omega)); (focus rfl); conv => whnf)
                    | ((with_reducible refine Dr.by (id := 15) Tryz.tysOk rfl [(0, 0), (2, 0), (3, 0), (1, 1), (4, 1), (5, 0)] ?_ ?_); (focus kernel_rfl); conv => whnf)
                    | ((with_reducible refine CD.is (fun M => hcn _) ?_); conv => whnf)
                    | ((rw [hw0]); conv => whnf))
                  all_goals first | (exfalso; omega) | exact ⟨k + 1, by kernel_rfl, by (exact Ent.rfl), ⟨by omega, g3⟩, by omega⟩
              · have hno : codeI w0 = -1 := Classical.byContradiction fun h => g2 (codeI w0).toNat (by omega) (by omega)
                rw [if_neg (by omega)]
                clear g2 hcn hci2 hin
                conv => whnf
                repeat' (first
                  | ((with_reducible refine Br.df ?_ ?_); (focus (first | assumption | omega)); conv => whnf)
                  | ((with_reducible refine Nd.mk ?_ ?_); (focus (first | omega | rfl | assumption | (simp; done))); conv => whnf)
                  | (refine LdN.at 0 rfl (by first | exact Nat.le_of_ble_eq_true rfl | (simp; done)) ?_; conv => whnf)
                  | (refine St.at 0 rfl (by first | exact Nat.le_of_ble_eq_true rfl | (simp; done)) rfl ?_; conv => whnf))
                all_goals first | (exfalso; omega) | exact Tryz.LnP.bad (by (refine FEnt.ent ?_; (repeat (first | exact FEnt.rfl | refine FEnt.drop ?_)); done))
          · by_cases hl : ws.length = 1
            · by_cases hz : 1 < w0.size
              · have hix := hix (by omega)
                by_cases h58 : (sAt w0 (w0.size - 1)).toNat = 58
                · have hle := fun L => Con.df (fun h => hA ⟨hl, hz, h58, h⟩) (hle (by omega) L)
                  have y1 : ((sAt w0 (w0.size - 1)).toNat : Int) = 58 := by omega
                  have x1 : ¬ w0 = (⟨#[98, 121, 116, 101]⟩ : ByteArray) := hb
                  have x2 : ¬ w0 = (⟨#[116, 119, 111]⟩ : ByteArray) := hc
                  clear hB hC hb hc
                  clear hA
                  refine con_of Tryz.tysOk Tryz.func35 rfl rfl ?_
                  conv => whnf
                  repeat' (first
                    | (first | ((with_reducible refine Br.tt ?_); conv => whnf) | ((with_reducible refine Br.ff ?_); conv => whnf) | ((with_reducible refine Br.dt ?_ ?_); (focus (first | assumption | omega)); conv => whnf) | ((with_reducible refine Br.df ?_ ?_); (focus (first | assumption | omega)); conv => whnf) | ((with_reducible refine Br.yes ?_ ?_); (focus (first | (simp; done) | (simp; omega))); conv => whnf))
                    | ((with_reducible refine Ar.i64 ?_ ?_); (focus omega); conv => whnf)
                    | ((with_reducible refine Nc.go' (fun _ => ?_)); conv => whnf)
                    | ((with_reducible refine Ix.ad ?_ ?_ ?_); (focus (assumption)); (focus (omega)); conv => whnf)
                    | ((with_reducible refine SIx.mk' ?_ ?_); (focus (omega)); conv => whnf)
                    | ((with_reducible refine SubS.pre ?_ ?_); (focus (omega)); conv => whnf)
                    | ((apply Ld.rd0); (focus ((repeat ((refine Rd.own 0 rfl ?_); (assumption))); done)); (focus rfl); (focus (omega)); (focus rfl); conv => whnf)
                    | (first | ((with_reducible refine Cl.new (hsp _) (fun _ _ _ _ => ?_)); conv => whnf) | ((with_reducible refine Cl.is (hle _) ?_); conv => whnf))
                    | ((rw [hix]); conv => whnf)
                    | ((rw [hw0]); conv => whnf))
                  all_goals try (exfalso; omega)
                  rename_i b2 aw cw hcw hdw
                  conv => whnf
                  refine Lp.by Tryz.tysOk [6] (fun (k : Nat) => [.int .i64 k]) (fun k => ptc b2 59 [.string .empty, .slice none 0 0, .slice none 0 0, .string .empty, .bool false] :: own strE 9 aw cw ws :: L) (fun k => k ≤ 16 ∧ ∀ j : Nat, j < k → ¬ codeI w0 = (j : Int)) (fun k => 16 - k) (0) (by kernel_rfl) (by (refine FEnt.ent ?_; (repeat (first | exact FEnt.rfl | (refine FEnt.at 1 rfl ?_; (try simp only [List.eraseIdx_cons_zero, List.eraseIdx_cons_succ, List.eraseIdx_zero, List.tail_cons])))); done)) (⟨by omega, fun j hj => by omega⟩) ?_
                  rintro k ⟨g1, g2⟩
                  conv => whnf
                  repeat (intro _; conv => whnf)
                  by_cases hk : k < 16
                  · have hcn := hcn k hk
                    by_cases he : codeI w0 = (k : Int)
                    · have f1 := (hci2 k hk).2 he
                      rw [if_pos (by omega), he]
                      have hin := fun a c L h => hin k hk a c L h
                      clear g2 hci2
                      conv => whnf
                      repeat' (first
                        | ((with_reducible refine Br.dt ?_ ?_); (focus (first | assumption | omega)); conv => whnf)
                        | ((with_reducible refine Nd.mk ?_ ?_); (focus (first | omega | rfl | assumption | (simp; done))); conv => whnf)
                        | ((with_reducible refine Ix.ad ?_ ?_ ?_); (focus (assumption)); (focus (omega)); conv => whnf)
                        | ((apply Ld.rd0); (focus ((repeat ((refine Rd.own 1 rfl ?_); (assumption))); done)); (focus rfl); (focus (omega)); (focus rfl); conv => whnf)
                        | (refine LdN.at 2 rfl (by first | exact Nat.le_of_ble_eq_true rfl | (simp; done)) ?_; conv => whnf)
                        | (refine St.at 2 rfl (by first | exact Nat.le_of_ble_eq_true rfl | (simp; done)) rfl ?_; conv => whnf)
                        | ((with_reducible refine Dr.by (id := 15) Tryz.tysOk rfl [(0, 0), (2, 0), (3, 0), (1, 1), (4, 1), (5, 0)] ?_ ?_); (focus kernel_rfl); conv => whnf)
                        | ((with_reducible refine CD.is (fun M => hcn _) ?_); conv => whnf)
                        | ((with_reducible refine Cl.exs (hin _ _ _ (by ((repeat ((refine Rd.own 1 rfl ?_); (assumption))); done))) (fun y ⟨hy, hw⟩ => ?_)); conv => whnf)
                        | ((rw [hw0]); conv => whnf))
                      all_goals first | (exfalso; omega) | exact Exs.of (y : LnV) (by (try dsimp only); (refine FEnt.ent ?_; (repeat (first | exact FEnt.rfl | (refine FEnt.at 0 rfl ?_; (try simp only [List.eraseIdx_cons_zero, List.eraseIdx_cons_succ, List.eraseIdx_zero, List.tail_cons])) | refine FEnt.drop ?_)); done)) ⟨hy, hw⟩ rfl
                    · have f1 : ¬ codeN k = w0 := fun h => he ((hci2 k hk).1 h)
                      have g3 := lt_step g2 he
                      clear g2 hci2 hin
                      conv => whnf
                      repeat' (first
                        | (first | ((with_reducible refine Br.dt ?_ ?_); (focus (first | assumption | omega)); conv => whnf) | ((with_reducible refine Br.df ?_ ?_); (focus (first | assumption | omega)); conv => whnf))
                        | ((with_reducible refine Ar.i64 ?_ ?_); (focus omega); conv => whnf)
                        | ((with_reducible refine Ix.ad ?_ ?_ ?_); (focus (assumption)); (focus (omega)); conv => whnf)
                        | ((apply Ld.rd0); (focus ((repeat ((refine Rd.own 1 rfl ?_); (assumption))); done)); (focus rfl); (focus (omega)); (focus rfl); conv => whnf)
                        | ((with_reducible refine Dr.by (id := 15) Tryz.tysOk rfl [(0, 0), (2, 0), (3, 0), (1, 1), (4, 1), (5, 0)] ?_ ?_); (focus kernel_rfl); conv => whnf)
                        | ((with_reducible refine CD.is (fun M => hcn _) ?_); conv => whnf)
                        | ((rw [hw0]); conv => whnf))
                      all_goals first | (exfalso; omega) | exact ⟨k + 1, by kernel_rfl, by (exact Ent.rfl), ⟨by omega, g3⟩, by omega⟩
                  · have hno : codeI w0 = -1 := Classical.byContradiction fun h => g2 (codeI w0).toNat (by omega) (by omega)
                    rw [if_neg (by omega)]
                    clear g2 hcn hci2 hin
                    conv => whnf
                    repeat' (first
                      | ((with_reducible refine Br.df ?_ ?_); (focus (first | assumption | omega)); conv => whnf)
                      | ((with_reducible refine Nd.mk ?_ ?_); (focus (first | omega | rfl | assumption | (simp; done))); conv => whnf)
                      | (refine LdN.at 0 rfl (by first | exact Nat.le_of_ble_eq_true rfl | (simp; done)) ?_; conv => whnf)
                      | (refine St.at 0 rfl (by first | exact Nat.le_of_ble_eq_true rfl | (simp; done)) rfl ?_; conv => whnf))
                    all_goals first | (exfalso; omega) | exact Tryz.LnP.bad (by (refine FEnt.ent ?_; (repeat (first | exact FEnt.rfl | refine FEnt.drop ?_)); done))
                · have y1 : ¬ ((sAt w0 (w0.size - 1)).toNat : Int) = 58 := by omega
                  have x1 : ¬ w0 = (⟨#[98, 121, 116, 101]⟩ : ByteArray) := hb
                  have x2 : ¬ w0 = (⟨#[116, 119, 111]⟩ : ByteArray) := hc
                  clear hB hC hb hc
                  clear hA hle
                  refine con_of Tryz.tysOk Tryz.func35 rfl rfl ?_
                  conv => whnf
                  repeat' (first
                    | (first | ((with_reducible refine Br.tt ?_); conv => whnf) | ((with_reducible refine Br.ff ?_); conv => whnf) | ((with_reducible refine Br.dt ?_ ?_); (focus (first | assumption | omega)); conv => whnf) | ((with_reducible refine Br.df ?_ ?_); (focus (first | assumption | omega)); conv => whnf) | ((with_reducible refine Br.no ?_ ?_); (focus (first | (simp; done) | (simp; omega))); conv => whnf))
                    | ((with_reducible refine Ar.i64 ?_ ?_); (focus omega); conv => whnf)
                    | ((with_reducible refine Nc.go' (fun _ => ?_)); conv => whnf)
                    | ((with_reducible refine Ix.ad ?_ ?_ ?_); (focus (assumption)); (focus (omega)); conv => whnf)
                    | ((with_reducible refine SIx.mk' ?_ ?_); (focus (omega)); conv => whnf)
                    | ((apply Ld.rd0); (focus ((repeat ((refine Rd.own 0 rfl ?_); (assumption))); done)); (focus rfl); (focus (omega)); (focus rfl); conv => whnf)
                    | ((with_reducible refine Cl.new (hsp _) (fun _ _ _ _ => ?_)); conv => whnf)
                    | ((rw [hix]); conv => whnf)
                    | ((rw [hw0]); conv => whnf))
                  all_goals try (exfalso; omega)
                  rename_i b2 aw cw hcw hdw
                  conv => whnf
                  refine Lp.by Tryz.tysOk [6] (fun (k : Nat) => [.int .i64 k]) (fun k => ptc b2 59 [.string .empty, .slice none 0 0, .slice none 0 0, .string .empty, .bool false] :: own strE 9 aw cw ws :: L) (fun k => k ≤ 16 ∧ ∀ j : Nat, j < k → ¬ codeI w0 = (j : Int)) (fun k => 16 - k) (0) (by kernel_rfl) (by (refine FEnt.ent ?_; (repeat (first | exact FEnt.rfl | (refine FEnt.at 1 rfl ?_; (try simp only [List.eraseIdx_cons_zero, List.eraseIdx_cons_succ, List.eraseIdx_zero, List.tail_cons])))); done)) (⟨by omega, fun j hj => by omega⟩) ?_
                  rintro k ⟨g1, g2⟩
                  conv => whnf
                  repeat (intro _; conv => whnf)
                  by_cases hk : k < 16
                  · have hcn := hcn k hk
                    by_cases he : codeI w0 = (k : Int)
                    · have f1 := (hci2 k hk).2 he
                      rw [if_pos (by omega), he]
                      have hin := fun a c L h => hin k hk a c L h
                      clear g2 hci2
                      conv => whnf
                      repeat' (first
                        | ((with_reducible refine Br.dt ?_ ?_); (focus (first | assumption | omega)); conv => whnf)
                        | ((with_reducible refine Nd.mk ?_ ?_); (focus (first | omega | rfl | assumption | (simp; done))); conv => whnf)
                        | ((with_reducible refine Ix.ad ?_ ?_ ?_); (focus (assumption)); (focus (omega)); conv => whnf)
                        | ((apply Ld.rd0); (focus ((repeat ((refine Rd.own 1 rfl ?_); (assumption))); done)); (focus rfl); (focus (omega)); (focus rfl); conv => whnf)
                        | (refine LdN.at 2 rfl (by first | exact Nat.le_of_ble_eq_true rfl | (simp; done)) ?_; conv => whnf)
                        | (refine St.at 2 rfl (by first | exact Nat.le_of_ble_eq_true rfl | (simp; done)) rfl ?_; conv => whnf)
                        | ((with_reducible refine Dr.by (id := 15) Tryz.tysOk rfl [(0, 0), (2, 0), (3, 0), (1, 1), (4, 1), (5, 0)] ?_ ?_); (focus kernel_rfl); conv => whnf)
                        | ((with_reducible refine CD.is (fun M => hcn _) ?_); conv => whnf)
                        | ((with_reducible refine Cl.exs (hin _ _ _ (by ((repeat ((refine Rd.own 1 rfl ?_); (assumption))); done))) (fun y ⟨hy, hw⟩ => ?_)); conv => whnf)
                        | ((rw [hw0]); conv => whnf))
                      all_goals first | (exfalso; omega) | exact Exs.of (y : LnV) (by (try dsimp only); (refine FEnt.ent ?_; (repeat (first | exact FEnt.rfl | (refine FEnt.at 0 rfl ?_; (try simp only [List.eraseIdx_cons_zero, List.eraseIdx_cons_succ, List.eraseIdx_zero, List.tail_cons])) | refine FEnt.drop ?_)); done)) ⟨hy, hw⟩ rfl
                    · have f1 : ¬ codeN k = w0 := fun h => he ((hci2 k hk).1 h)
                      have g3 := lt_step g2 he
                      clear g2 hci2 hin
                      conv => whnf
                      repeat' (first
                        | (first | ((with_reducible refine Br.dt ?_ ?_); (focus (first | assumption | omega)); conv => whnf) | ((with_reducible refine Br.df ?_ ?_); (focus (first | assumption | omega)); conv => whnf))
                        | ((with_reducible refine Ar.i64 ?_ ?_); (focus omega); conv => whnf)
                        | ((with_reducible refine Ix.ad ?_ ?_ ?_); (focus (assumption)); (focus (omega)); conv => whnf)
                        | ((apply Ld.rd0); (focus ((repeat ((refine Rd.own 1 rfl ?_); (assumption))); done)); (focus rfl); (focus (omega)); (focus rfl); conv => whnf)
                        | ((with_reducible refine Dr.by (id := 15) Tryz.tysOk rfl [(0, 0), (2, 0), (3, 0), (1, 1), (4, 1), (5, 0)] ?_ ?_); (focus kernel_rfl); conv => whnf)
                        | ((with_reducible refine CD.is (fun M => hcn _) ?_); conv => whnf)
                        | ((rw [hw0]); conv => whnf))
                      all_goals first | (exfalso; omega) | exact ⟨k + 1, by kernel_rfl, by (exact Ent.rfl), ⟨by omega, g3⟩, by omega⟩
                  · have hno : codeI w0 = -1 := Classical.byContradiction fun h => g2 (codeI w0).toNat (by omega) (by omega)
                    rw [if_neg (by omega)]
                    clear g2 hcn hci2 hin
                    conv => whnf
                    repeat' (first
                      | ((with_reducible refine Br.df ?_ ?_); (focus (first | assumption | omega)); conv => whnf)
                      | ((with_reducible refine Nd.mk ?_ ?_); (focus (first | omega | rfl | assumption | (simp; done))); conv => whnf)
                      | (refine LdN.at 0 rfl (by first | exact Nat.le_of_ble_eq_true rfl | (simp; done)) ?_; conv => whnf)
                      | (refine St.at 0 rfl (by first | exact Nat.le_of_ble_eq_true rfl | (simp; done)) rfl ?_; conv => whnf))
                    all_goals first | (exfalso; omega) | exact Tryz.LnP.bad (by (refine FEnt.ent ?_; (repeat (first | exact FEnt.rfl | refine FEnt.drop ?_)); done))
              · skip
                have x1 : ¬ w0 = (⟨#[98, 121, 116, 101]⟩ : ByteArray) := hb
                have x2 : ¬ w0 = (⟨#[116, 119, 111]⟩ : ByteArray) := hc
                clear hB hC hb hc
                clear hA hle hix
                refine con_of Tryz.tysOk Tryz.func35 rfl rfl ?_
                conv => whnf
                repeat' (first
                  | (first | ((with_reducible refine Br.tt ?_); conv => whnf) | ((with_reducible refine Br.ff ?_); conv => whnf) | ((with_reducible refine Br.dt ?_ ?_); (focus (first | assumption | omega)); conv => whnf) | ((with_reducible refine Br.df ?_ ?_); (focus (first | assumption | omega)); conv => whnf))
                  | ((with_reducible refine Nc.go' (fun _ => ?_)); conv => whnf)
                  | ((with_reducible refine Ix.ad ?_ ?_ ?_); (focus (assumption)); (focus (omega)); conv => whnf)
                  | ((with_reducible refine SIx.mk' ?_ ?_); (focus (omega)); conv => whnf)
                  | ((apply Ld.rd0); (focus ((repeat ((refine Rd.own 0 rfl ?_); (assumption))); done)); (focus rfl); (focus (omega)); (focus rfl); conv => whnf)
                  | ((with_reducible refine Cl.new (hsp _) (fun _ _ _ _ => ?_)); conv => whnf)
                  | ((rw [hw0]); conv => whnf))
                all_goals try (exfalso; omega)
                rename_i b2 aw cw hcw hdw
                conv => whnf
                refine Lp.by Tryz.tysOk [6] (fun (k : Nat) => [.int .i64 k]) (fun k => ptc b2 59 [.string .empty, .slice none 0 0, .slice none 0 0, .string .empty, .bool false] :: own strE 9 aw cw ws :: L) (fun k => k ≤ 16 ∧ ∀ j : Nat, j < k → ¬ codeI w0 = (j : Int)) (fun k => 16 - k) (0) (by kernel_rfl) (by (refine FEnt.ent ?_; (repeat (first | exact FEnt.rfl | (refine FEnt.at 1 rfl ?_; (try simp only [List.eraseIdx_cons_zero, List.eraseIdx_cons_succ, List.eraseIdx_zero, List.tail_cons])))); done)) (⟨by omega, fun j hj => by omega⟩) ?_
                rintro k ⟨g1, g2⟩
                conv => whnf
                repeat (intro _; conv => whnf)
                by_cases hk : k < 16
                · have hcn := hcn k hk
                  by_cases he : codeI w0 = (k : Int)
                  · have f1 := (hci2 k hk).2 he
                    rw [if_pos (by omega), he]
                    have hin := fun a c L h => hin k hk a c L h
                    clear g2 hci2
                    conv => whnf
                    repeat' (first
                      | ((with_reducible refine Br.dt ?_ ?_); (focus (first | assumption | omega)); conv => whnf)
                      | ((with_reducible refine Nd.mk ?_ ?_); (focus (first | omega | rfl | assumption | (simp; done))); conv => whnf)
                      | ((with_reducible refine Ix.ad ?_ ?_ ?_); (focus (assumption)); (focus (omega)); conv => whnf)
                      | ((apply Ld.rd0); (focus ((repeat ((refine Rd.own 1 rfl ?_); (assumption))); done)); (focus rfl); (focus (omega)); (focus rfl); conv => whnf)
                      | (refine LdN.at 2 rfl (by first | exact Nat.le_of_ble_eq_true rfl | (simp; done)) ?_; conv => whnf)
                      | (refine St.at 2 rfl (by first | exact Nat.le_of_ble_eq_true rfl | (simp; done)) rfl ?_; conv => whnf)
                      | ((with_reducible refine Dr.by (id := 15) Tryz.tysOk rfl [(0, 0), (2, 0), (3, 0), (1, 1), (4, 1), (5, 0)] ?_ ?_); (focus kernel_rfl); conv => whnf)
                      | ((with_reducible refine CD.is (fun M => hcn _) ?_); conv => whnf)
                      | ((with_reducible refine Cl.exs (hin _ _ _ (by ((repeat ((refine Rd.own 1 rfl ?_); (assumption))); done))) (fun y ⟨hy, hw⟩ => ?_)); conv => whnf)
                      | ((rw [hw0]); conv => whnf))
                    all_goals first | (exfalso; omega) | exact Exs.of (y : LnV) (by (try dsimp only); (refine FEnt.ent ?_; (repeat (first | exact FEnt.rfl | (refine FEnt.at 0 rfl ?_; (try simp only [List.eraseIdx_cons_zero, List.eraseIdx_cons_succ, List.eraseIdx_zero, List.tail_cons])) | refine FEnt.drop ?_)); done)) ⟨hy, hw⟩ rfl
                  · have f1 : ¬ codeN k = w0 := fun h => he ((hci2 k hk).1 h)
                    have g3 := lt_step g2 he
                    clear g2 hci2 hin
                    conv => whnf
                    repeat' (first
                      | (first | ((with_reducible refine Br.dt ?_ ?_); (focus (first | assumption | omega)); conv => whnf) | ((with_reducible refine Br.df ?_ ?_); (focus (first | assumption | omega)); conv => whnf))
                      | ((with_reducible refine Ar.i64 ?_ ?_); (focus omega); conv => whnf)
                      | ((with_reducible refine Ix.ad ?_ ?_ ?_); (focus (assumption)); (focus (omega)); conv => whnf)
                      | ((apply Ld.rd0); (focus ((repeat ((refine Rd.own 1 rfl ?_); (assumption))); done)); (focus rfl); (focus (omega)); (focus rfl); conv => whnf)
                      | ((with_reducible refine Dr.by (id := 15) Tryz.tysOk rfl [(0, 0), (2, 0), (3, 0), (1, 1), (4, 1), (5, 0)] ?_ ?_); (focus kernel_rfl); conv => whnf)
                      | ((with_reducible refine CD.is (fun M => hcn _) ?_); conv => whnf)
                      | ((rw [hw0]); conv => whnf))
                    all_goals first | (exfalso; omega) | exact ⟨k + 1, by kernel_rfl, by (exact Ent.rfl), ⟨by omega, g3⟩, by omega⟩
                · have hno : codeI w0 = -1 := Classical.byContradiction fun h => g2 (codeI w0).toNat (by omega) (by omega)
                  rw [if_neg (by omega)]
                  clear g2 hcn hci2 hin
                  conv => whnf
                  repeat' (first
                    | ((with_reducible refine Br.df ?_ ?_); (focus (first | assumption | omega)); conv => whnf)
                    | ((with_reducible refine Nd.mk ?_ ?_); (focus (first | omega | rfl | assumption | (simp; done))); conv => whnf)
                    | (refine LdN.at 0 rfl (by first | exact Nat.le_of_ble_eq_true rfl | (simp; done)) ?_; conv => whnf)
                    | (refine St.at 0 rfl (by first | exact Nat.le_of_ble_eq_true rfl | (simp; done)) rfl ?_; conv => whnf))
                  all_goals first | (exfalso; omega) | exact Tryz.LnP.bad (by (refine FEnt.ent ?_; (repeat (first | exact FEnt.rfl | refine FEnt.drop ?_)); done))
            · skip
              have x1 : ¬ w0 = (⟨#[98, 121, 116, 101]⟩ : ByteArray) := hb
              have x2 : ¬ w0 = (⟨#[116, 119, 111]⟩ : ByteArray) := hc
              clear hB hC hb hc
              clear hA hle hix
              refine con_of Tryz.tysOk Tryz.func35 rfl rfl ?_
              conv => whnf
              repeat' (first
                | (first | ((with_reducible refine Br.ff ?_); conv => whnf) | ((with_reducible refine Br.df ?_ ?_); (focus (first | assumption | omega)); conv => whnf))
                | ((with_reducible refine Nc.go' (fun _ => ?_)); conv => whnf)
                | ((with_reducible refine Ix.ad ?_ ?_ ?_); (focus (assumption)); (focus (omega)); conv => whnf)
                | ((with_reducible refine SIx.mk' ?_ ?_); (focus (omega)); conv => whnf)
                | ((apply Ld.rd0); (focus ((repeat ((refine Rd.own 0 rfl ?_); (assumption))); done)); (focus rfl); (focus (omega)); (focus rfl); conv => whnf)
                | ((with_reducible refine Cl.new (hsp _) (fun _ _ _ _ => ?_)); conv => whnf)
                | ((rw [hw0]); conv => whnf))
              all_goals try (exfalso; omega)
              rename_i b2 aw cw hcw hdw
              conv => whnf
              refine Lp.by Tryz.tysOk [6] (fun (k : Nat) => [.int .i64 k]) (fun k => ptc b2 59 [.string .empty, .slice none 0 0, .slice none 0 0, .string .empty, .bool false] :: own strE 9 aw cw ws :: L) (fun k => k ≤ 16 ∧ ∀ j : Nat, j < k → ¬ codeI w0 = (j : Int)) (fun k => 16 - k) (0) (by kernel_rfl) (by (refine FEnt.ent ?_; (repeat (first | exact FEnt.rfl | (refine FEnt.at 1 rfl ?_; (try simp only [List.eraseIdx_cons_zero, List.eraseIdx_cons_succ, List.eraseIdx_zero, List.tail_cons])))); done)) (⟨by omega, fun j hj => by omega⟩) ?_
              rintro k ⟨g1, g2⟩
              conv => whnf
              repeat (intro _; conv => whnf)
              by_cases hk : k < 16
              · have hcn := hcn k hk
                by_cases he : codeI w0 = (k : Int)
                · have f1 := (hci2 k hk).2 he
                  rw [if_pos (by omega), he]
                  have hin := fun a c L h => hin k hk a c L h
                  clear g2 hci2
                  conv => whnf
                  repeat' (first
                    | ((with_reducible refine Br.dt ?_ ?_); (focus (first | assumption | omega)); conv => whnf)
                    | ((with_reducible refine Nd.mk ?_ ?_); (focus (first | omega | rfl | assumption | (simp; done))); conv => whnf)
                    | ((with_reducible refine Ix.ad ?_ ?_ ?_); (focus (assumption)); (focus (omega)); conv => whnf)
                    | ((apply Ld.rd0); (focus ((repeat ((refine Rd.own 1 rfl ?_); (assumption))); done)); (focus rfl); (focus (omega)); (focus rfl); conv => whnf)
                    | (refine LdN.at 2 rfl (by first | exact Nat.le_of_ble_eq_true rfl | (simp; done)) ?_; conv => whnf)
                    | (refine St.at 2 rfl (by first | exact Nat.le_of_ble_eq_true rfl | (simp; done)) rfl ?_; conv => whnf)
                    | ((with_reducible refine Dr.by (id := 15) Tryz.tysOk rfl [(0, 0), (2, 0), (3, 0), (1, 1), (4, 1), (5, 0)] ?_ ?_); (focus kernel_rfl); conv => whnf)
                    | ((with_reducible refine CD.is (fun M => hcn _) ?_); conv => whnf)
                    | ((with_reducible refine Cl.exs (hin _ _ _ (by ((repeat ((refine Rd.own 1 rfl ?_); (assumption))); done))) (fun y ⟨hy, hw⟩ => ?_)); conv => whnf)
                    | ((rw [hw0]); conv => whnf))
                  all_goals first | (exfalso; omega) | exact Exs.of (y : LnV) (by (try dsimp only); (refine FEnt.ent ?_; (repeat (first | exact FEnt.rfl | (refine FEnt.at 0 rfl ?_; (try simp only [List.eraseIdx_cons_zero, List.eraseIdx_cons_succ, List.eraseIdx_zero, List.tail_cons])) | refine FEnt.drop ?_)); done)) ⟨hy, hw⟩ rfl
                · have f1 : ¬ codeN k = w0 := fun h => he ((hci2 k hk).1 h)
                  have g3 := lt_step g2 he
                  clear g2 hci2 hin
                  conv => whnf
                  repeat' (first
                    | (first | ((with_reducible refine Br.dt ?_ ?_); (focus (first | assumption | omega)); conv => whnf) | ((with_reducible refine Br.df ?_ ?_); (focus (first | assumption | omega)); conv => whnf))
                    | ((with_reducible refine Ar.i64 ?_ ?_); (focus omega); conv => whnf)
                    | ((with_reducible refine Ix.ad ?_ ?_ ?_); (focus (assumption)); (focus (omega)); conv => whnf)
                    | ((apply Ld.rd0); (focus ((repeat ((refine Rd.own 1 rfl ?_); (assumption))); done)); (focus rfl); (focus (omega)); (focus rfl); conv => whnf)
                    | ((with_reducible refine Dr.by (id := 15) Tryz.tysOk rfl [(0, 0), (2, 0), (3, 0), (1, 1), (4, 1), (5, 0)] ?_ ?_); (focus kernel_rfl); conv => whnf)
                    | ((with_reducible refine CD.is (fun M => hcn _) ?_); conv => whnf)
                    | ((rw [hw0]); conv => whnf))
                  all_goals first | (exfalso; omega) | exact ⟨k + 1, by kernel_rfl, by (exact Ent.rfl), ⟨by omega, g3⟩, by omega⟩
              · have hno : codeI w0 = -1 := Classical.byContradiction fun h => g2 (codeI w0).toNat (by omega) (by omega)
                rw [if_neg (by omega)]
                clear g2 hcn hci2 hin
                conv => whnf
                repeat' (first
                  | ((with_reducible refine Br.df ?_ ?_); (focus (first | assumption | omega)); conv => whnf)
                  | ((with_reducible refine Nd.mk ?_ ?_); (focus (first | omega | rfl | assumption | (simp; done))); conv => whnf)
                  | (refine LdN.at 0 rfl (by first | exact Nat.le_of_ble_eq_true rfl | (simp; done)) ?_; conv => whnf)
                  | (refine St.at 0 rfl (by first | exact Nat.le_of_ble_eq_true rfl | (simp; done)) rfl ?_; conv => whnf))
                all_goals first | (exfalso; omega) | exact Tryz.LnP.bad (by (refine FEnt.ent ?_; (repeat (first | exact FEnt.rfl | refine FEnt.drop ?_)); done))
theorem Tryz.refRead20 (s : ByteArray) (L : List HP) (hs : s.size ≤ 90000) : Con Tryz.prog 35 [.string s] L (Tryz.LnP (lnF s.data.toList) L) := by
  have hl := size_list s
  unfold lnF
  by_cases h0 : s.size = 0
  · have := size_zero h0
    subst this
    rw [if_pos (.inl rfl)]
    refine con_of Tryz.tysOk Tryz.func35 rfl rfl ?_
    conv => whnf
    repeat' (first
      | (first | ((with_reducible refine Br.tt ?_); conv => whnf) | ((with_reducible refine Br.yes ?_ ?_); (focus (first | (simp; done) | (simp; omega))); conv => whnf))
      | ((with_reducible refine Nd.mk ?_ ?_); (focus (first | omega | rfl | assumption | (simp; done))); conv => whnf)
      | ((with_reducible refine Nc.go' (fun _ => ?_)); conv => whnf)
      | (refine LdN.at 0 rfl (by first | exact Nat.le_of_ble_eq_true rfl | (simp; done)) ?_; conv => whnf)
      | (refine St.at 0 rfl (by first | exact Nat.le_of_ble_eq_true rfl | (simp; done)) rfl ?_; conv => whnf))
    all_goals exact Tryz.LnP.nl (by (refine FEnt.ent ?_; (repeat (first | exact FEnt.rfl | refine FEnt.drop ?_)); done))
  · have hne : ¬ s = ⟨#[]⟩ := fun h => h0 (by rw [h]; rfl)
    have hhd : s.data.toList.headD 0 = sAt s 0 := by
      show _ = s.data.toList.getD 0 0
      cases s.data.toList <;> rfl
    by_cases h35 : (sAt s 0).toNat = 35
    · rw [if_pos (.inr (by rw [hhd]; exact h35))]
      have h35' : ((sAt s 0).toNat : Int) = 35 := by omega
      refine con_of Tryz.tysOk Tryz.func35 rfl rfl ?_
      conv => whnf
      repeat' (first
        | (first | ((with_reducible refine Br.ff ?_); conv => whnf) | ((with_reducible refine Br.dt ?_ ?_); (focus (first | assumption | omega)); conv => whnf) | ((with_reducible refine Br.df ?_ ?_); (focus (first | assumption | omega)); conv => whnf))
        | ((with_reducible refine Nd.mk ?_ ?_); (focus (first | omega | rfl | assumption | (simp; done))); conv => whnf)
        | ((with_reducible refine Nc.go' (fun _ => ?_)); conv => whnf)
        | ((with_reducible refine SIx.mk' ?_ ?_); (focus (omega)); conv => whnf)
        | (refine LdN.at 0 rfl (by first | exact Nat.le_of_ble_eq_true rfl | (simp; done)) ?_; conv => whnf)
        | (refine St.at 0 rfl (by first | exact Nat.le_of_ble_eq_true rfl | (simp; done)) rfl ?_; conv => whnf))
      all_goals first | (exfalso; omega) | exact Tryz.LnP.nl (by (refine FEnt.ent ?_; (repeat (first | exact FEnt.rfl | refine FEnt.drop ?_)); done))
    · rw [if_neg (fun h => h.elim (fun h => h0 (by rw [← hl, h]; rfl)) (fun h => h35 (by rw [← hhd]; exact h)))]
      exact Tryz.refReadW s (wds s.data.toList) _ _ L hne (by omega) (by omega) (by have := wds_le s; omega) (by have := wds_le s; omega) (wds_ge _) (fun i => by have := wat_le s i; show (wat _ _).size ≤ _; omega) rfl rfl (fun L => Tryz.refSplit 32 s L (by omega))
end Go.Proofs
