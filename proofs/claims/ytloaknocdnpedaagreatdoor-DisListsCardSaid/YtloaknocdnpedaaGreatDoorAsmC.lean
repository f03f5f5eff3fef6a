/- The document's reader of a line of a program's text: the whole line: contracts. -/
import Derived.Test.YtloaknocdnpedaaGreatDoorAsmB
set_option linter.all false
namespace Go.Proofs
open Go.Eng
open Classical
set_option linter.unusedVariables false
set_option maxRecDepth 100000
set_option maxHeartbeats 4000000
abbrev Tryz.LnP (l : Ln) (L : List HP) := Exs lvV (fun y => own numE 3 y.a y.c y.l.nums :: own numE 3 y.a' y.c' y.l.szs :: L) (fun y => y.l = l ∧ LnW y)
theorem Tryz.LnP.bad {L L' : List HP} (h : Ent L' L) : Tryz.LnP badL L (.agg #[.string ⟨#[]⟩, .slice none 0 0, .slice none 0 0, .string ⟨#[]⟩, .bool true]) L' :=
  Exs.of (⟨badL, none, 0, none, 0⟩ : LnV) (fun w s => Ent.nil w (Ent.nil w (h w s))) ⟨rfl, ⟨Nat.le_refl _, fun h => absurd rfl h, Nat.le_refl _, fun h => absurd rfl h⟩⟩ rfl
theorem Tryz.LnP.nl {L L' : List HP} (h : Ent L' L) : Tryz.LnP nilL L (.agg #[.string ⟨#[]⟩, .slice none 0 0, .slice none 0 0, .string ⟨#[]⟩, .bool false]) L' :=
  Exs.of (⟨nilL, none, 0, none, 0⟩ : LnV) (fun w s => Ent.nil w (Ent.nil w (h w s))) ⟨rfl, ⟨Nat.le_refl _, fun h => absurd rfl h, Nat.le_refl _, fun h => absurd rfl h⟩⟩ rfl
theorem Tryz.refInstr (c : Nat) (aw : Option Addr) (cw : Nat) (ws : List ByteArray) (L : List HP) (hc : c < 16) (hr : Rd strE L aw ws) (hN : ws.length ≤ 100000) (hs : ∀ i, (ws.getD i strE.d).size ≤ 1000000) :
    Con Tryz.prog 60 [qI c, .slice aw ws.length cw] L (Tryz.LnP (insF c ws) L) := by
  have hv := fun (v : LnV) w L h1 h2 h3 h4 => Tryz.refValue v w L h1 h2 h3 h4
  have p1 := regA_P (wat ws 1)
  have p2 := regA_P (wat ws 2)
  have s1 := hs 1
  have s2 := hs 2
  change (ws.getD (Int.toNat 1) strE.d).size ≤ 1000000 at s1
  change (ws.getD (Int.toNat 2) strE.d).size ≤ 1000000 at s2
  have r1 := fun L => Tryz.refRegister (ws.getD (Int.toNat 1) strE.d) L (by omega)
  have r2 := fun L => Tryz.refRegister (ws.getD (Int.toNat 2) strE.d) L (by omega)
  have l2 := fun L => Tryz.refLetters (ws.getD (Int.toNat 2) strE.d) L (by omega)
  change -1 ≤ regA (ws.getD (Int.toNat 1) strE.d) ∧ regA (ws.getD (Int.toNat 1) strE.d) ≤ 7 at p1
  change -1 ≤ regA (ws.getD (Int.toNat 2) strE.d) ∧ regA (ws.getD (Int.toNat 2) strE.d) ≤ 7 at p2
  clear hs
  unfold insF
  show Con Tryz.prog 60 [qI c, .slice aw ws.length cw] L (Tryz.LnP (if (c : Int) = 0 ∨ (c : Int) = 15 then (if ws.length = 1 then valF ⟨noB, [(c : Int), 0], [1, 1], noB, false⟩ zeroB else badL)
    else if (c : Int) = 11 then (if ws.length = 2 then valF ⟨noB, [(c : Int), 0], [1, 1], noB, false⟩ (ws.getD (Int.toNat 1) strE.d) else badL)
    else if ws.length = 3 then
      (if 2 ≤ (c : Int) ∧ (c : Int) ≤ 10 then ⟨noB, [(c : Int), regA (ws.getD (Int.toNat 1) strE.d), regA (ws.getD (Int.toNat 2) strE.d)], [1, 1, 2], noB, decide (regA (ws.getD (Int.toNat 1) strE.d) < 0) || decide (regA (ws.getD (Int.toNat 2) strE.d) < 0)⟩
      else if (c : Int) = 14 ∧ Ltrs (ws.getD (Int.toNat 2) strE.d) then badL
      else valF ⟨noB, [(c : Int), regA (ws.getD (Int.toNat 1) strE.d)], [1, 1], noB, decide (regA (ws.getD (Int.toNat 1) strE.d) < 0)⟩ (ws.getD (Int.toNat 2) strE.d))
    else badL) L)
  generalize hw1 : ws.getD (Int.toNat 1) strE.d = w1 at *
  generalize hw2 : ws.getD (Int.toNat 2) strE.d = w2 at *
  by_cases h0 : c = 0 ∨ c = 15
  · rw [if_pos (by omega)]
    by_cases hl : ws.length = 1
    · rw [if_pos hl]
      rcases h0 with rfl | rfl
      · refine con_of Tryz.tysOk Tryz.func60 rfl rfl ?_
        conv => whnf
        repeat' (first
          | (first | ((with_reducible refine Br.tt ?_); conv => whnf) | ((with_reducible refine Br.dt ?_ ?_); (focus (first | assumption | omega)); conv => whnf) | ((with_reducible refine Br.df ?_ ?_); (focus (first | assumption | omega)); conv => whnf) | ((with_reducible refine Br.ndf ?_ ?_); (focus (first | assumption | omega)); conv => whnf))
          | ((with_reducible refine Nd.mk ?_ ?_); (focus (first | omega | rfl | assumption | (simp; done))); conv => whnf)
          | ((with_reducible refine Nc.go' (fun _ => ?_)); conv => whnf)
          | (refine LdN.at 0 rfl (by first | exact Nat.le_of_ble_eq_true rfl | (simp; done)) ?_; conv => whnf)
          | (refine St.at 0 rfl (by first | exact Nat.le_of_ble_eq_true rfl | (simp; done)) rfl ?_; conv => whnf))
        rename_i b4 b10 b11 b5
        conv => whnf
        repeat' (first
          | ((with_reducible refine Nd.mk ?_ ?_); (focus (first | omega | rfl | assumption | (simp; done))); conv => whnf)
          | (refine LdN.at 3 rfl (by first | exact Nat.le_of_ble_eq_true rfl | (simp; done)) ?_; conv => whnf)
          | (refine St.at 3 rfl (by first | exact Nat.le_of_ble_eq_true rfl | (simp; done)) rfl ?_; conv => whnf)
          | (apply (Cl.pre [own numE 3 (some ⟨b10, 0, none⟩) 2 [0, 0], own numE 3 (some ⟨b11, 0, none⟩) 2 [1, 1]]); (focus ((repeat (first | exact FEnt.rfl | (refine FEnt.lit 1 rfl rfl rfl rfl ?_; (try simp only [List.eraseIdx_cons_zero, List.eraseIdx_cons_succ, List.eraseIdx_zero, List.tail_cons])) | (refine FEnt.lit 2 rfl rfl rfl rfl ?_; (try simp only [List.eraseIdx_cons_zero, List.eraseIdx_cons_succ, List.eraseIdx_zero, List.tail_cons])))); done)); refine Cl.exs (hv ⟨⟨noB, [0, 0], [1, 1], noB, false⟩, some ⟨b10, 0, none⟩, 2, some ⟨b11, 0, none⟩, 2⟩ zeroB _ ⟨Nat.le_refl _, fun _ => rfl, Nat.le_refl _, fun _ => rfl⟩ (by exact Nat.le_of_ble_eq_true rfl) (by exact Nat.le_of_ble_eq_true rfl) (by exact Nat.le_of_ble_eq_true rfl)) ?_; rintro y ⟨hy, hw⟩; conv => whnf))
        all_goals first | (exfalso; omega) | exact Exs.of (y : LnV) (by (try dsimp only); (refine FEnt.ent ?_; (repeat (first | exact FEnt.rfl | (refine FEnt.at 0 rfl ?_; (try simp only [List.eraseIdx_cons_zero, List.eraseIdx_cons_succ, List.eraseIdx_zero, List.tail_cons])) | refine FEnt.drop ?_)); done)) ⟨hy, hw⟩ rfl
      · refine con_of Tryz.tysOk Tryz.func60 rfl rfl ?_
        conv => whnf
        repeat' (first
          | (first | ((with_reducible refine Br.ff ?_); conv => whnf) | ((with_reducible refine Br.dt ?_ ?_); (focus (first | assumption | omega)); conv => whnf) | ((with_reducible refine Br.df ?_ ?_); (focus (first | assumption | omega)); conv => whnf) | ((with_reducible refine Br.ndf ?_ ?_); (focus (first | assumption | omega)); conv => whnf))
          | ((with_reducible refine Nd.mk ?_ ?_); (focus (first | omega | rfl | assumption | (simp; done))); conv => whnf)
          | ((with_reducible refine Nc.go' (fun _ => ?_)); conv => whnf)
          | (refine LdN.at 0 rfl (by first | exact Nat.le_of_ble_eq_true rfl | (simp; done)) ?_; conv => whnf)
          | (refine St.at 0 rfl (by first | exact Nat.le_of_ble_eq_true rfl | (simp; done)) rfl ?_; conv => whnf))
        rename_i b4 b10 b11 b5
        conv => whnf
        repeat' (first
          | ((with_reducible refine Nd.mk ?_ ?_); (focus (first | omega | rfl | assumption | (simp; done))); conv => whnf)
          | (refine LdN.at 3 rfl (by first | exact Nat.le_of_ble_eq_true rfl | (simp; done)) ?_; conv => whnf)
          | (refine St.at 3 rfl (by first | exact Nat.le_of_ble_eq_true rfl | (simp; done)) rfl ?_; conv => whnf)
          | (apply (Cl.pre [own numE 3 (some ⟨b10, 0, none⟩) 2 [15, 0], own numE 3 (some ⟨b11, 0, none⟩) 2 [1, 1]]); (focus ((repeat (first | exact FEnt.rfl | (refine FEnt.lit 1 rfl rfl rfl rfl ?_; (try simp only [List.eraseIdx_cons_zero, List.eraseIdx_cons_succ, List.eraseIdx_zero, List.tail_cons])) | (refine FEnt.lit 2 rfl rfl rfl rfl ?_; (try simp only [List.eraseIdx_cons_zero, List.eraseIdx_cons_succ, List.eraseIdx_zero, List.tail_cons])))); done)); refine Cl.exs (hv ⟨⟨noB, [15, 0], [1, 1], noB, false⟩, some ⟨b10, 0, none⟩, 2, some ⟨b11, 0, none⟩, 2⟩ zeroB _ ⟨Nat.le_refl _, fun _ => rfl, Nat.le_refl _, fun _ => rfl⟩ (by exact Nat.le_of_ble_eq_true rfl) (by exact Nat.le_of_ble_eq_true rfl) (by exact Nat.le_of_ble_eq_true rfl)) ?_; rintro y ⟨hy, hw⟩; conv => whnf))
        all_goals first | (exfalso; omega) | exact Exs.of (y : LnV) (by (try dsimp only); (refine FEnt.ent ?_; (repeat (first | exact FEnt.rfl | (refine FEnt.at 0 rfl ?_; (try simp only [List.eraseIdx_cons_zero, List.eraseIdx_cons_succ, List.eraseIdx_zero, List.tail_cons])) | refine FEnt.drop ?_)); done)) ⟨hy, hw⟩ rfl
    · rw [if_neg hl]
      refine con_of Tryz.tysOk Tryz.func60 rfl rfl ?_
      conv => whnf
      repeat' (first
        | (first | ((with_reducible refine Br.tt ?_); conv => whnf) | ((with_reducible refine Br.ff ?_); conv => whnf) | ((with_reducible refine Br.dt ?_ ?_); (focus (first | assumption | omega)); conv => whnf) | ((with_reducible refine Br.df ?_ ?_); (focus (first | assumption | omega)); conv => whnf) | ((with_reducible refine Br.ndt ?_ ?_); (focus (first | assumption | omega)); conv => whnf))
        | ((with_reducible refine Nd.mk ?_ ?_); (focus (first | omega | rfl | assumption | (simp; done))); conv => whnf)
        | ((with_reducible refine Nc.go' (fun _ => ?_)); conv => whnf)
        | (refine LdN.at 3 rfl (by first | exact Nat.le_of_ble_eq_true rfl | (simp; done)) ?_; conv => whnf)
        | (first | (refine St.at 0 rfl (by first | exact Nat.le_of_ble_eq_true rfl | (simp; done)) rfl ?_; conv => whnf) | (refine St.at 3 rfl (by first | exact Nat.le_of_ble_eq_true rfl | (simp; done)) rfl ?_; conv => whnf))
        | ((with_reducible refine Br.ds (fun _ => ?_) (fun _ => ?_) ) <;> (conv => whnf)))
      all_goals first | (exfalso; omega) | exact Tryz.LnP.bad (by (refine FEnt.ent ?_; (repeat (first | exact FEnt.rfl | refine FEnt.drop ?_)); done))
  · rw [if_neg (by omega)]
    by_cases h11 : c = 11
    · rw [if_pos (by omega)]
      by_cases hl : ws.length = 2
      · rw [if_pos hl]
        subst h11
        refine con_of Tryz.tysOk Tryz.func60 rfl rfl ?_
        conv => whnf
        repeat' (first
          | (first | ((with_reducible refine Br.ff ?_); conv => whnf) | ((with_reducible refine Br.dt ?_ ?_); (focus (first | assumption | omega)); conv => whnf) | ((with_reducible refine Br.df ?_ ?_); (focus (first | assumption | omega)); conv => whnf) | ((with_reducible refine Br.ndf ?_ ?_); (focus (first | assumption | omega)); conv => whnf))
          | ((with_reducible refine Nd.mk ?_ ?_); (focus (first | omega | rfl | assumption | (simp; done))); conv => whnf)
          | ((with_reducible refine Nc.go' (fun _ => ?_)); conv => whnf)
          | ((with_reducible refine Ix.ad ?_ ?_ ?_); (focus (exact Rd.ad (by assumption))); (focus (omega)); conv => whnf)
          | ((apply Ld.rd0); (focus ((repeat (first | assumption | apply Rd.cons)); done)); (focus rfl); (focus (omega)); (focus rfl); conv => whnf)
          | (refine LdN.at 0 rfl (by first | exact Nat.le_of_ble_eq_true rfl | (simp; done)) ?_; conv => whnf)
          | (refine St.at 0 rfl (by first | exact Nat.le_of_ble_eq_true rfl | (simp; done)) rfl ?_; conv => whnf)
          | ((with_reducible refine Dr.by (id := 12) Tryz.tysOk rfl [(1, 0), (2, 0), (0, 1), (3, 1), (4, 3), (5, 3)] ?_ ?_); (focus kernel_rfl); conv => whnf)
          | ((rw [hw1]); conv => whnf))
        rename_i b4 b10 b11 b5
        conv => whnf
        repeat' (first
          | ((with_reducible refine Nd.mk ?_ ?_); (focus (first | omega | rfl | assumption | (simp; done))); conv => whnf)
          | (refine LdN.at 3 rfl (by first | exact Nat.le_of_ble_eq_true rfl | (simp; done)) ?_; conv => whnf)
          | (refine St.at 3 rfl (by first | exact Nat.le_of_ble_eq_true rfl | (simp; done)) rfl ?_; conv => whnf)
          | (apply (Cl.pre [own numE 3 (some ⟨b10, 0, none⟩) 2 [11, 0], own numE 3 (some ⟨b11, 0, none⟩) 2 [1, 1]]); (focus ((repeat (first | exact FEnt.rfl | (refine FEnt.lit 1 rfl rfl rfl rfl ?_; (try simp only [List.eraseIdx_cons_zero, List.eraseIdx_cons_succ, List.eraseIdx_zero, List.tail_cons])) | (refine FEnt.lit 2 rfl rfl rfl rfl ?_; (try simp only [List.eraseIdx_cons_zero, List.eraseIdx_cons_succ, List.eraseIdx_zero, List.tail_cons])))); done)); refine Cl.exs (hv ⟨⟨noB, [11, 0], [1, 1], noB, false⟩, some ⟨b10, 0, none⟩, 2, some ⟨b11, 0, none⟩, 2⟩ w1 _ ⟨Nat.le_refl _, fun _ => rfl, Nat.le_refl _, fun _ => rfl⟩ (by omega) (by exact Nat.le_of_ble_eq_true rfl) (by exact Nat.le_of_ble_eq_true rfl)) ?_; rintro y ⟨hy, hw⟩; conv => whnf))
        all_goals first | (exfalso; omega) | exact Exs.of (y : LnV) (by (try dsimp only); (refine FEnt.ent ?_; (repeat (first | exact FEnt.rfl | (refine FEnt.at 0 rfl ?_; (try simp only [List.eraseIdx_cons_zero, List.eraseIdx_cons_succ, List.eraseIdx_zero, List.tail_cons])) | refine FEnt.drop ?_)); done)) ⟨hy, hw⟩ rfl
      · rw [if_neg hl]
        refine con_of Tryz.tysOk Tryz.func60 rfl rfl ?_
        conv => whnf
        repeat' (first
          | (first | ((with_reducible refine Br.ff ?_); conv => whnf) | ((with_reducible refine Br.dt ?_ ?_); (focus (first | assumption | omega)); conv => whnf) | ((with_reducible refine Br.df ?_ ?_); (focus (first | assumption | omega)); conv => whnf) | ((with_reducible refine Br.ndt ?_ ?_); (focus (first | assumption | omega)); conv => whnf))
          | ((with_reducible refine Nd.mk ?_ ?_); (focus (first | omega | rfl | assumption | (simp; done))); conv => whnf)
          | ((with_reducible refine Nc.go' (fun _ => ?_)); conv => whnf)
          | (refine LdN.at 3 rfl (by first | exact Nat.le_of_ble_eq_true rfl | (simp; done)) ?_; conv => whnf)
          | (first | (refine St.at 0 rfl (by first | exact Nat.le_of_ble_eq_true rfl | (simp; done)) rfl ?_; conv => whnf) | (refine St.at 3 rfl (by first | exact Nat.le_of_ble_eq_true rfl | (simp; done)) rfl ?_; conv => whnf)))
        all_goals first | (exfalso; omega) | exact Tryz.LnP.bad (by (refine FEnt.ent ?_; (repeat (first | exact FEnt.rfl | refine FEnt.drop ?_)); done))
    · rw [if_neg (by omega)]
      by_cases hl : ws.length = 3
      · rw [if_pos hl]
        by_cases hrg : 2 ≤ c ∧ c ≤ 10
        · rw [if_pos (by omega)]
          by_cases hx : regA w1 < 0
          · rw [decide_eq_true hx]
            refine con_of Tryz.tysOk Tryz.func60 rfl rfl ?_
            conv => whnf
            repeat' (first
              | (first | ((with_reducible refine Br.tt ?_); conv => whnf) | ((with_reducible refine Br.ff ?_); conv => whnf) | ((with_reducible refine Br.dt ?_ ?_); (focus (first | assumption | omega)); conv => whnf) | ((with_reducible refine Br.df ?_ ?_); (focus (first | assumption | omega)); conv => whnf) | ((with_reducible refine Br.ndf ?_ ?_); (focus (first | assumption | omega)); conv => whnf))
              | ((with_reducible refine Nd.mk ?_ ?_); (focus (first | omega | rfl | assumption | (simp; done))); conv => whnf)
              | ((with_reducible refine Nc.go' (fun _ => ?_)); conv => whnf)
              | ((with_reducible refine Ix.ad ?_ ?_ ?_); (focus (first | exact Rd.ad (by assumption) | exact fun _ => rfl)); (focus (omega)); conv => whnf)
              | (first | ((apply Ld.rd0); (focus ((repeat (first | assumption | apply Rd.cons)); done)); (focus rfl); (focus (omega)); (focus rfl); conv => whnf) | (refine Ld.at 0 rfl rfl ?_; conv => whnf) | (refine Ld.at 2 rfl rfl ?_; conv => whnf) | (refine Ld.at 4 rfl rfl ?_; conv => whnf))
              | (first | (refine LdN.at 4 rfl (by first | exact Nat.le_of_ble_eq_true rfl | (simp; done)) ?_; conv => whnf) | (refine LdN.at 5 rfl (by first | exact Nat.le_of_ble_eq_true rfl | (simp; done)) ?_; conv => whnf))
              | (first | (refine St.at 0 rfl (by first | exact Nat.le_of_ble_eq_true rfl | (simp; done)) rfl ?_; conv => whnf) | (refine St.at 2 rfl (by first | exact Nat.le_of_ble_eq_true rfl | (simp; done)) rfl ?_; conv => whnf) | (refine St.at 4 rfl (by first | exact Nat.le_of_ble_eq_true rfl | (simp; done)) rfl ?_; conv => whnf) | (refine St.at 5 rfl (by first | exact Nat.le_of_ble_eq_true rfl | (simp; done)) rfl ?_; conv => whnf))
              | (first | ((with_reducible refine Cl.is (r1 _) ?_); conv => whnf) | ((with_reducible refine Cl.is (r2 _) ?_); conv => whnf))
              | ((with_reducible refine (?_ : Sm _ (Builtin.append_ _ _ _) _ _)); ((first | (with_reducible_and_instances apply (Sm.appLit (E := numE) (et := 3) Tryz.tysOk 3 rfl [_, _] rfl)) | (with_reducible_and_instances apply (Sm.appLit (E := numE) (et := 3) Tryz.tysOk 4 rfl [_, _] rfl))); (rotate_left; (focus (exact Rd.ptc 0 rfl [_] rfl)); rotate_right; (focus rfl)); (focus rfl); (focus rfl); (focus rfl); (focus rfl); (focus rfl); (focus rfl); (focus rfl); (focus rfl); (focus ((simp only [List.length_append, List.length_cons, List.length_nil]); omega)); (intro _ _ _ _); conv => whnf))
              | ((rw [hw1]); conv => whnf)
              | ((rw [hw2]); conv => whnf))
            all_goals try (exfalso; omega)
            all_goals (
              rename_i a5 c5 hc5 had5 b66 a6 c6 hc6 had6
              exact Exs.of (⟨⟨noB, [(c : Int), regA w1] ++ [regA w2], [1, 1] ++ [2], noB, true⟩, a5, c5, a6, c6⟩ : LnV) (by (try dsimp only); (refine FEnt.ent ?_; (repeat (first | exact FEnt.rfl | (refine FEnt.at 0 rfl ?_; (try simp only [List.eraseIdx_cons_zero, List.eraseIdx_cons_succ, List.eraseIdx_zero, List.tail_cons])) | (refine FEnt.at 2 rfl ?_; (try simp only [List.eraseIdx_cons_zero, List.eraseIdx_cons_succ, List.eraseIdx_zero, List.tail_cons])) | refine FEnt.drop ?_)); done)) ⟨rfl, ⟨hc5, had5, hc6, had6⟩⟩ rfl)
          · rw [decide_eq_false hx]
            refine con_of Tryz.tysOk Tryz.func60 rfl rfl ?_
            conv => whnf
            repeat' (first
              | (first | ((with_reducible refine Br.tt ?_); conv => whnf) | ((with_reducible refine Br.ff ?_); conv => whnf) | ((with_reducible refine Br.dt ?_ ?_); (focus (first | assumption | omega)); conv => whnf) | ((with_reducible refine Br.df ?_ ?_); (focus (first | assumption | omega)); conv => whnf) | ((with_reducible refine Br.ndf ?_ ?_); (focus (first | assumption | omega)); conv => whnf))
              | ((with_reducible refine Nd.mk ?_ ?_); (focus (first | omega | rfl | assumption | (simp; done))); conv => whnf)
              | ((with_reducible refine Nc.go' (fun _ => ?_)); conv => whnf)
              | ((with_reducible refine Ix.ad ?_ ?_ ?_); (focus (first | exact Rd.ad (by assumption) | exact fun _ => rfl)); (focus (omega)); conv => whnf)
              | (first | ((apply Ld.rd0); (focus ((repeat (first | assumption | apply Rd.cons)); done)); (focus rfl); (focus (omega)); (focus rfl); conv => whnf) | (refine Ld.at 0 rfl rfl ?_; conv => whnf) | (refine Ld.at 2 rfl rfl ?_; conv => whnf) | (refine Ld.at 4 rfl rfl ?_; conv => whnf))
              | (first | (refine LdN.at 4 rfl (by first | exact Nat.le_of_ble_eq_true rfl | (simp; done)) ?_; conv => whnf) | (refine LdN.at 5 rfl (by first | exact Nat.le_of_ble_eq_true rfl | (simp; done)) ?_; conv => whnf))
              | (first | (refine St.at 0 rfl (by first | exact Nat.le_of_ble_eq_true rfl | (simp; done)) rfl ?_; conv => whnf) | (refine St.at 2 rfl (by first | exact Nat.le_of_ble_eq_true rfl | (simp; done)) rfl ?_; conv => whnf) | (refine St.at 4 rfl (by first | exact Nat.le_of_ble_eq_true rfl | (simp; done)) rfl ?_; conv => whnf) | (refine St.at 5 rfl (by first | exact Nat.le_of_ble_eq_true rfl | (simp; done)) rfl ?_; conv => whnf))
              | (first | ((with_reducible refine Cl.is (r1 _) ?_); conv => whnf) | ((with_reducible refine Cl.is (r2 _) ?_); conv => whnf))
              | ((with_reducible refine (?_ : Sm _ (Builtin.append_ _ _ _) _ _)); ((first | (with_reducible_and_instances apply (Sm.appLit (E := numE) (et := 3) Tryz.tysOk 3 rfl [_, _] rfl)) | (with_reducible_and_instances apply (Sm.appLit (E := numE) (et := 3) Tryz.tysOk 4 rfl [_, _] rfl))); (rotate_left; (focus (exact Rd.ptc 0 rfl [_] rfl)); rotate_right; (focus rfl)); (focus rfl); (focus rfl); (focus rfl); (focus rfl); (focus rfl); (focus rfl); (focus rfl); (focus rfl); (focus ((simp only [List.length_append, List.length_cons, List.length_nil]); omega)); (intro _ _ _ _); conv => whnf))
              | ((rw [hw1]); conv => whnf)
              | ((rw [hw2]); conv => whnf))
            all_goals try (exfalso; omega)
            all_goals (
              rename_i a5 c5 hc5 had5 b66 a6 c6 hc6 had6
              exact Exs.of (⟨⟨noB, [(c : Int), regA w1] ++ [regA w2], [1, 1] ++ [2], noB, decide (regA w2 < 0)⟩, a5, c5, a6, c6⟩ : LnV) (by (try dsimp only); (refine FEnt.ent ?_; (repeat (first | exact FEnt.rfl | (refine FEnt.at 0 rfl ?_; (try simp only [List.eraseIdx_cons_zero, List.eraseIdx_cons_succ, List.eraseIdx_zero, List.tail_cons])) | (refine FEnt.at 2 rfl ?_; (try simp only [List.eraseIdx_cons_zero, List.eraseIdx_cons_succ, List.eraseIdx_zero, List.tail_cons])) | refine FEnt.drop ?_)); done)) ⟨rfl, ⟨hc5, had5, hc6, had6⟩⟩ rfl)
        · rw [if_neg (by omega)]
          by_cases h14 : c = 14
          · by_cases hlt : Ltrs w2
            · rw [if_pos ⟨by omega, hlt⟩]
              have l2 := fun L => Con.dt hlt (l2 L)
              refine con_of Tryz.tysOk Tryz.func60 rfl rfl ?_
              conv => whnf
              repeat' (first
                | (first | ((with_reducible refine Br.tt ?_); conv => whnf) | ((with_reducible refine Br.ff ?_); conv => whnf) | ((with_reducible refine Br.dt ?_ ?_); (focus (first | assumption | omega)); conv => whnf) | ((with_reducible refine Br.df ?_ ?_); (focus (first | assumption | omega)); conv => whnf) | ((with_reducible refine Br.ndf ?_ ?_); (focus (first | assumption | omega)); conv => whnf))
                | ((with_reducible refine Nd.mk ?_ ?_); (focus (first | omega | rfl | assumption | (simp; done))); conv => whnf)
                | ((with_reducible refine Nc.go' (fun _ => ?_)); conv => whnf)
                | ((with_reducible refine Ix.ad ?_ ?_ ?_); (focus (first | exact Rd.ad (by assumption) | exact fun _ => rfl)); (focus (omega)); conv => whnf)
                | (first | ((apply Ld.rd0); (focus ((repeat (first | assumption | apply Rd.cons)); done)); (focus rfl); (focus (omega)); (focus rfl); conv => whnf) | (refine Ld.at 0 rfl rfl ?_; conv => whnf))
                | (refine LdN.at 3 rfl (by first | exact Nat.le_of_ble_eq_true rfl | (simp; done)) ?_; conv => whnf)
                | (first | (refine St.at 0 rfl (by first | exact Nat.le_of_ble_eq_true rfl | (simp; done)) rfl ?_; conv => whnf) | (refine St.at 2 rfl (by first | exact Nat.le_of_ble_eq_true rfl | (simp; done)) rfl ?_; conv => whnf) | (refine St.at 3 rfl (by first | exact Nat.le_of_ble_eq_true rfl | (simp; done)) rfl ?_; conv => whnf))
                | (first | ((with_reducible refine Cl.is (r1 _) ?_); conv => whnf) | ((with_reducible refine Cl.is (l2 _) ?_); conv => whnf))
                | ((rw [hw1]); conv => whnf)
                | ((rw [hw2]); conv => whnf))
              all_goals first | (exfalso; omega) | exact Tryz.LnP.bad (by (refine FEnt.ent ?_; (repeat (first | exact FEnt.rfl | refine FEnt.drop ?_)); done))
            · rw [if_neg (fun h => hlt h.2)]
              have l2 := fun L => Con.df hlt (l2 L)
              refine con_of Tryz.tysOk Tryz.func60 rfl rfl ?_
              conv => whnf
              repeat' (first
                | (first | ((with_reducible refine Br.tt ?_); conv => whnf) | ((with_reducible refine Br.ff ?_); conv => whnf) | ((with_reducible refine Br.dt ?_ ?_); (focus (first | assumption | omega)); conv => whnf) | ((with_reducible refine Br.df ?_ ?_); (focus (first | assumption | omega)); conv => whnf) | ((with_reducible refine Br.ndf ?_ ?_); (focus (first | assumption | omega)); conv => whnf))
                | ((with_reducible refine Nd.mk ?_ ?_); (focus (first | omega | rfl | assumption | (simp; done))); conv => whnf)
                | ((with_reducible refine Nc.go' (fun _ => ?_)); conv => whnf)
                | ((with_reducible refine Ix.ad ?_ ?_ ?_); (focus (first | exact Rd.ad (by assumption) | exact fun _ => rfl)); (focus (omega)); conv => whnf)
                | (first | ((apply Ld.rd0); (focus ((repeat (first | assumption | apply Rd.cons)); done)); (focus rfl); (focus (omega)); (focus rfl); conv => whnf) | (refine Ld.at 0 rfl rfl ?_; conv => whnf))
                | (refine LdN.at 0 rfl (by first | exact Nat.le_of_ble_eq_true rfl | (simp; done)) ?_; conv => whnf)
                | (first | (refine St.at 0 rfl (by first | exact Nat.le_of_ble_eq_true rfl | (simp; done)) rfl ?_; conv => whnf) | (refine St.at 2 rfl (by first | exact Nat.le_of_ble_eq_true rfl | (simp; done)) rfl ?_; conv => whnf))
                | ((with_reducible refine Dr.by (id := 24) Tryz.tysOk rfl [(1, 0), (2, 0), (0, 1), (3, 1), (4, 3), (5, 3)] ?_ ?_); (focus kernel_rfl); conv => whnf)
                | (first | ((with_reducible refine Cl.is (r1 _) ?_); conv => whnf) | ((with_reducible refine Cl.is (l2 _) ?_); conv => whnf))
                | ((rw [hw1]); conv => whnf)
                | ((rw [hw2]); conv => whnf))
              all_goals try (exfalso; omega)
              rename_i b4 b10 b11 b5
              conv => whnf
              repeat' (first
                | ((with_reducible refine Nd.mk ?_ ?_); (focus (first | omega | rfl | assumption | (simp; done))); conv => whnf)
                | (refine LdN.at 3 rfl (by first | exact Nat.le_of_ble_eq_true rfl | (simp; done)) ?_; conv => whnf)
                | (refine St.at 3 rfl (by first | exact Nat.le_of_ble_eq_true rfl | (simp; done)) rfl ?_; conv => whnf)
                | (apply (Cl.pre [own numE 3 (some ⟨b10, 0, none⟩) 2 [(c : Int), regA w1], own numE 3 (some ⟨b11, 0, none⟩) 2 [1, 1]]); (focus ((repeat (first | exact FEnt.rfl | (refine FEnt.lit 1 rfl rfl rfl rfl ?_; (try simp only [List.eraseIdx_cons_zero, List.eraseIdx_cons_succ, List.eraseIdx_zero, List.tail_cons])) | (refine FEnt.lit 2 rfl rfl rfl rfl ?_; (try simp only [List.eraseIdx_cons_zero, List.eraseIdx_cons_succ, List.eraseIdx_zero, List.tail_cons])))); done)); refine Cl.exs (hv ⟨⟨noB, [(c : Int), regA w1], [1, 1], noB, decide (regA w1 < 0)⟩, some ⟨b10, 0, none⟩, 2, some ⟨b11, 0, none⟩, 2⟩ w2 _ ⟨Nat.le_refl _, fun _ => rfl, Nat.le_refl _, fun _ => rfl⟩ (by omega) (by exact Nat.le_of_ble_eq_true rfl) (by exact Nat.le_of_ble_eq_true rfl)) ?_; rintro y ⟨hy, hw⟩; conv => whnf))
              all_goals first | (exfalso; omega) | exact Exs.of (y : LnV) (by (try dsimp only); (refine FEnt.ent ?_; (repeat (first | exact FEnt.rfl | (refine FEnt.at 0 rfl ?_; (try simp only [List.eraseIdx_cons_zero, List.eraseIdx_cons_succ, List.eraseIdx_zero, List.tail_cons])) | refine FEnt.drop ?_)); done)) ⟨hy, hw⟩ rfl
          · rw [if_neg (by omega)]
            by_cases hc2 : 2 ≤ c
            · skip
              refine con_of Tryz.tysOk Tryz.func60 rfl rfl ?_
              conv => whnf
              repeat' (first
                | (first | ((with_reducible refine Br.tt ?_); conv => whnf) | ((with_reducible refine Br.ff ?_); conv => whnf) | ((with_reducible refine Br.dt ?_ ?_); (focus (first | assumption | omega)); conv => whnf) | ((with_reducible refine Br.df ?_ ?_); (focus (first | assumption | omega)); conv => whnf) | ((with_reducible refine Br.ndf ?_ ?_); (focus (first | assumption | omega)); conv => whnf))
                | ((with_reducible refine Nd.mk ?_ ?_); (focus (first | omega | rfl | assumption | (simp; done))); conv => whnf)
                | ((with_reducible refine Nc.go' (fun _ => ?_)); conv => whnf)
                | ((with_reducible refine Ix.ad ?_ ?_ ?_); (focus (first | exact Rd.ad (by assumption) | exact fun _ => rfl)); (focus (omega)); conv => whnf)
                | (first | ((apply Ld.rd0); (focus ((repeat (first | assumption | apply Rd.cons)); done)); (focus rfl); (focus (omega)); (focus rfl); conv => whnf) | (refine Ld.at 0 rfl rfl ?_; conv => whnf))
                | (refine LdN.at 0 rfl (by first | exact Nat.le_of_ble_eq_true rfl | (simp; done)) ?_; conv => whnf)
                | (first | (refine St.at 0 rfl (by first | exact Nat.le_of_ble_eq_true rfl | (simp; done)) rfl ?_; conv => whnf) | (refine St.at 2 rfl (by first | exact Nat.le_of_ble_eq_true rfl | (simp; done)) rfl ?_; conv => whnf))
                | ((with_reducible refine Dr.by (id := 24) Tryz.tysOk rfl [(1, 0), (2, 0), (0, 1), (3, 1), (4, 3), (5, 3)] ?_ ?_); (focus kernel_rfl); conv => whnf)
                | ((with_reducible refine Cl.is (r1 _) ?_); conv => whnf)
                | ((rw [hw1]); conv => whnf)
                | ((rw [hw2]); conv => whnf))
              all_goals try (exfalso; omega)
              rename_i b4 b10 b11 b5
              conv => whnf
              repeat' (first
                | ((with_reducible refine Nd.mk ?_ ?_); (focus (first | omega | rfl | assumption | (simp; done))); conv => whnf)
                | (refine LdN.at 3 rfl (by first | exact Nat.le_of_ble_eq_true rfl | (simp; done)) ?_; conv => whnf)
                | (refine St.at 3 rfl (by first | exact Nat.le_of_ble_eq_true rfl | (simp; done)) rfl ?_; conv => whnf)
                | (apply (Cl.pre [own numE 3 (some ⟨b10, 0, none⟩) 2 [(c : Int), regA w1], own numE 3 (some ⟨b11, 0, none⟩) 2 [1, 1]]); (focus ((repeat (first | exact FEnt.rfl | (refine FEnt.lit 1 rfl rfl rfl rfl ?_; (try simp only [List.eraseIdx_cons_zero, List.eraseIdx_cons_succ, List.eraseIdx_zero, List.tail_cons])) | (refine FEnt.lit 2 rfl rfl rfl rfl ?_; (try simp only [List.eraseIdx_cons_zero, List.eraseIdx_cons_succ, List.eraseIdx_zero, List.tail_cons])))); done)); refine Cl.exs (hv ⟨⟨noB, [(c : Int), regA w1], [1, 1], noB, decide (regA w1 < 0)⟩, some ⟨b10, 0, none⟩, 2, some ⟨b11, 0, none⟩, 2⟩ w2 _ ⟨Nat.le_refl _, fun _ => rfl, Nat.le_refl _, fun _ => rfl⟩ (by omega) (by exact Nat.le_of_ble_eq_true rfl) (by exact Nat.le_of_ble_eq_true rfl)) ?_; rintro y ⟨hy, hw⟩; conv => whnf))
              all_goals first | (exfalso; omega) | exact Exs.of (y : LnV) (by (try dsimp only); (refine FEnt.ent ?_; (repeat (first | exact FEnt.rfl | (refine FEnt.at 0 rfl ?_; (try simp only [List.eraseIdx_cons_zero, List.eraseIdx_cons_succ, List.eraseIdx_zero, List.tail_cons])) | refine FEnt.drop ?_)); done)) ⟨hy, hw⟩ rfl
            · skip
              refine con_of Tryz.tysOk Tryz.func60 rfl rfl ?_
              conv => whnf
              repeat' (first
                | (first | ((with_reducible refine Br.ff ?_); conv => whnf) | ((with_reducible refine Br.df ?_ ?_); (focus (first | assumption | omega)); conv => whnf) | ((with_reducible refine Br.ndf ?_ ?_); (focus (first | assumption | omega)); conv => whnf))
                | ((with_reducible refine Nd.mk ?_ ?_); (focus (first | omega | rfl | assumption | (simp; done))); conv => whnf)
                | ((with_reducible refine Nc.go' (fun _ => ?_)); conv => whnf)
                | ((with_reducible refine Ix.ad ?_ ?_ ?_); (focus (first | exact Rd.ad (by assumption) | exact fun _ => rfl)); (focus (omega)); conv => whnf)
                | (first | ((apply Ld.rd0); (focus ((repeat (first | assumption | apply Rd.cons)); done)); (focus rfl); (focus (omega)); (focus rfl); conv => whnf) | (refine Ld.at 0 rfl rfl ?_; conv => whnf))
                | (refine LdN.at 0 rfl (by first | exact Nat.le_of_ble_eq_true rfl | (simp; done)) ?_; conv => whnf)
                | (first | (refine St.at 0 rfl (by first | exact Nat.le_of_ble_eq_true rfl | (simp; done)) rfl ?_; conv => whnf) | (refine St.at 2 rfl (by first | exact Nat.le_of_ble_eq_true rfl | (simp; done)) rfl ?_; conv => whnf))
                | ((with_reducible refine Dr.by (id := 24) Tryz.tysOk rfl [(1, 0), (2, 0), (0, 1), (3, 1), (4, 3), (5, 3)] ?_ ?_); (focus kernel_rfl); conv => whnf)
                | ((with_reducible refine Cl.is (r1 _) ?_); conv => whnf)
                | ((rw [hw1]); conv => whnf)
                | ((rw [hw2]); conv => whnf))
              all_goals try (exfalso; omega)
              rename_i b4 b10 b11 b5
              conv => whnf
              repeat' (first
                | ((with_reducible refine Nd.mk ?_ ?_); (focus (first | omega | rfl | assumption | (simp; done))); conv => whnf)
                | (refine LdN.at 3 rfl (by first | exact Nat.le_of_ble_eq_true rfl | (simp; done)) ?_; conv => whnf)
                | (refine St.at 3 rfl (by first | exact Nat.le_of_ble_eq_true rfl | (simp; done)) rfl ?_; conv => whnf)
                | (apply (Cl.pre [own numE 3 (some ⟨b10, 0, none⟩) 2 [(c : Int), regA w1], own numE 3 (some ⟨b11, 0, none⟩) 2 [1, 1]]); (focus ((repeat (first | exact FEnt.rfl | (refine FEnt.lit 1 rfl rfl rfl rfl ?_; (try simp only [List.eraseIdx_cons_zero, List.eraseIdx_cons_succ, List.eraseIdx_zero, List.tail_cons])) | (refine FEnt.lit 2 rfl rfl rfl rfl ?_; (try simp only [List.eraseIdx_cons_zero, List.eraseIdx_cons_succ, List.eraseIdx_zero, List.tail_cons])))); done)); refine Cl.exs (hv ⟨⟨noB, [(c : Int), regA w1], [1, 1], noB, decide (regA w1 < 0)⟩, some ⟨b10, 0, none⟩, 2, some ⟨b11, 0, none⟩, 2⟩ w2 _ ⟨Nat.le_refl _, fun _ => rfl, Nat.le_refl _, fun _ => rfl⟩ (by omega) (by exact Nat.le_of_ble_eq_true rfl) (by exact Nat.le_of_ble_eq_true rfl)) ?_; rintro y ⟨hy, hw⟩; conv => whnf))
              all_goals first | (exfalso; omega) | exact Exs.of (y : LnV) (by (try dsimp only); (refine FEnt.ent ?_; (repeat (first | exact FEnt.rfl | (refine FEnt.at 0 rfl ?_; (try simp only [List.eraseIdx_cons_zero, List.eraseIdx_cons_succ, List.eraseIdx_zero, List.tail_cons])) | refine FEnt.drop ?_)); done)) ⟨hy, hw⟩ rfl
      · rw [if_neg hl]
        refine con_of Tryz.tysOk Tryz.func60 rfl rfl ?_
        conv => whnf
        repeat' (first
          | (first | ((with_reducible refine Br.ff ?_); conv => whnf) | ((with_reducible refine Br.df ?_ ?_); (focus (first | assumption | omega)); conv => whnf) | ((with_reducible refine Br.ndt ?_ ?_); (focus (first | assumption | omega)); conv => whnf))
          | ((with_reducible refine Nd.mk ?_ ?_); (focus (first | omega | rfl | assumption | (simp; done))); conv => whnf)
          | ((with_reducible refine Nc.go' (fun _ => ?_)); conv => whnf)
          | (refine LdN.at 3 rfl (by first | exact Nat.le_of_ble_eq_true rfl | (simp; done)) ?_; conv => whnf)
          | (first | (refine St.at 0 rfl (by first | exact Nat.le_of_ble_eq_true rfl | (simp; done)) rfl ?_; conv => whnf) | (refine St.at 3 rfl (by first | exact Nat.le_of_ble_eq_true rfl | (simp; done)) rfl ?_; conv => whnf)))
        all_goals first | (exfalso; omega) | exact Tryz.LnP.bad (by (refine FEnt.ent ?_; (repeat (first | exact FEnt.rfl | refine FEnt.drop ?_)); done))
end Go.Proofs
