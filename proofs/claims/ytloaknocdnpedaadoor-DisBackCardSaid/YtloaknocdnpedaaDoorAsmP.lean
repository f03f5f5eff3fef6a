/- The assembler: a text's program: contracts. -/
import Derived.Test.YtloaknocdnpedaaDoorAsmO
set_option linter.all false
namespace Go.Proofs
open Go.Eng Go.RowKit Go.MapKept
open Classical
set_option linter.unusedVariables false
set_option maxRecDepth 100000
set_option maxHeartbeats 4000000
abbrev Tryd.AoY := Aob × Option Addr × Nat × Nat × Option Addr × Nat
abbrev Tryd.aoH (o : Nat) (y : Tryd.AoY) (L : List HP) : List HP := ptc o 63 (Tryd.asmC y.2.1 y.1.bs.length y.2.2.1 y.2.2.2.1 y.2.2.2.2.1 y.1.uses.length y.2.2.2.2.2 y.1.line) :: own u8E 5 y.2.1 y.2.2.1 y.1.bs :: mapH y.2.2.2.1 .string (labV y.1.labs) :: own useE 92 y.2.2.2.2.1 y.2.2.2.2.2 y.1.uses :: L
abbrev Tryd.aoW (y : Tryd.AoY) : Prop := y.1.bs.length ≤ y.2.2.1 ∧ Ad y.2.1 y.1.bs.length ∧ y.1.uses.length ≤ y.2.2.2.2.2 ∧ Ad y.2.2.2.2.1 y.1.uses.length
theorem Tryd.asmBOpen {f : FuncId} {args : List Value} {o : Nat} {B : List HP} {bs : List UInt8} {labs : List (ByteArray × Int)} {v : Value} {L : List HP} (c : Con Tryd.prog f args B (Is v (Tryd.asmB o bs labs :: L))) :
    Con Tryd.prog f args B (Exs (fun y : Tryd.AoY => v) (fun y => Tryd.aoH o y L) (fun y => (y.1.bs = bs ∧ y.1.labs = labs) ∧ Tryd.aoW y)) := by
  refine ⟨c.ent, fun w s => (c.run w s).mono fun e w' h => ?_⟩
  cases e with
  | returned u =>
    obtain ⟨L', s', hi⟩ := h
    obtain ⟨c0, ⟨h1, h2, rfl, ⟨X, hX, a, c, mb, a', c', hv, hp⟩, hl⟩, ok⟩ := hi.l w' s'
    exact ⟨_, ⟨_, (parts_append (L := [_, _, _, _])).2 ⟨h1, h2, rfl, hp, hl⟩, ok⟩, (X, a, c, mb, a', c'), ⟨hX, hv⟩, hi.v, Ent.rfl⟩
  | panicked ch => obtain ⟨_, _, r⟩ := h; exact r.elim
  | outgrown => exact h
theorem Tryd.asmLOpen {f : FuncId} {args : List Value} {o : Nat} {B : List HP} {ln : Int} {v : Value} {L : List HP} (c : Con Tryd.prog f args B (Is v (Tryd.asmL o ln :: L))) :
    Con Tryd.prog f args B (Exs (fun y : Tryd.AoY => v) (fun y => Tryd.aoH o y L) (fun y => y.1.line = ln ∧ Tryd.aoW y)) := by
  refine ⟨c.ent, fun w s => (c.run w s).mono fun e w' h => ?_⟩
  cases e with
  | returned u =>
    obtain ⟨L', s', hi⟩ := h
    obtain ⟨c0, ⟨h1, h2, rfl, ⟨X, hX, a, c, mb, a', c', hv, hp⟩, hl⟩, ok⟩ := hi.l w' s'
    exact ⟨_, ⟨_, (parts_append (L := [_, _, _, _])).2 ⟨h1, h2, rfl, hp, hl⟩, ok⟩, (X, a, c, mb, a', c'), ⟨hX, hv⟩, hi.v, Ent.rfl⟩
  | panicked ch => obtain ⟨_, _, r⟩ := h; exact r.elim
  | outgrown => exact h
abbrev X0 : Aob := ⟨[], [], [], 0⟩
theorem Tryd.asmShut0 {o mb : Nat} {L M : List HP} (h : FEnt L (ptc o 63 [.slice none 0 0, .map (some mb), .slice none 0 0, .int .i64 0] :: mapH mb .string [] :: M)) : FEnt L (Tryd.asmH o ⟨[], [], [], 0⟩ :: M) := fun K w s => by
  have s1 := h K w s
  have s2 : Sat w (own u8E 5 none 0 [] :: own useE 92 none 0 [] :: (K ++ ptc o 63 [.slice none 0 0, .map (some mb), .slice none 0 0, .int .i64 0] :: mapH mb .string [] :: M)) := Ent.nil w (Ent.nil w s1)
  have s3 : Sat w (K ++ ptc o 63 [.slice none 0 0, .map (some mb), .slice none 0 0, .int .i64 0] :: own u8E 5 none 0 [] :: mapH mb .string [] :: own useE 92 none 0 [] :: M) :=
    s2.perm (((List.perm_middle.trans (List.perm_middle.cons _)).symm).trans (List.Perm.append_left K ((List.Perm.cons _ (List.Perm.swap _ _ _)).trans ((List.Perm.swap _ _ _).trans (List.Perm.cons _ (List.Perm.cons _ (List.Perm.swap _ _ _)))))))
  exact Tryd.asmShut FEnt.rfl rfl rfl rfl (Nat.le_refl _) (fun h => absurd rfl h) (Nat.le_refl _) (fun h => absurd rfl h) K w s3
theorem Tryd.asmMade (s : ByteArray) (bs : List UInt8) (labs : List (ByteArray × Int)) (L : List HP) (hs : s.size ≤ 60000) (hM : Tryd.Mx L) (hR : txF X0 (splL 10 s.data.toList) = .done bs labs) :
    Con Tryd.prog 22 [.string s] L (Exs (fun y : Nat × Tryd.AoY => .tuple #[p64 y.1, .int .i64 0, .int .i64 0]) (fun y => Tryd.aoH y.1 y.2 L) (fun y => (y.2.1.bs = bs ∧ y.2.1.labs = labs) ∧ Tryd.aoW y.2)) := by
  have ht := fun o L h => Tryd.asmBOpen (Tryd.asmText o s L _ (by omega) h hR)
  clear hR
  refine con_of Tryd.tysOk Tryd.func22 rfl rfl ?_
  conv => whnf
  repeat' (first
    | ((with_reducible refine Br.df ?_ ?_); (focus (first | assumption | omega)); conv => whnf)
    | ((with_reducible refine Nc.go' (fun _ => ?_)); conv => whnf)
    | ((with_reducible refine Nw.map .string (fun _ => ?_)); conv => whnf))
  rename_i mb o
  conv => whnf
  repeat' (first
    | ((with_reducible refine Br.ndf ?_ ?_); (focus (first | assumption | omega)); conv => whnf)
    | (apply (Cl.pre [Tryd.asmH o X0]); (focus ((repeat (first | exact FEnt.rfl | (apply Tryd.asmShut0))); done)); refine Cl.exs (ht o _ (by ((repeat (first | assumption | apply Tryd.mxCons | apply Tryd.mxApp)); done))) ?_; rintro ⟨X, a, c, mb5, a', c'⟩ ⟨⟨e1, e2⟩, w1, w2, w3, w4⟩; conv => whnf))
  all_goals first | (exfalso; omega) | exact Exs.of ((o, X, a, c, mb5, a', c') : Nat × Tryd.AoY) (by (try dsimp only); (exact Ent.rfl)) ⟨⟨e1, e2⟩, w1, w2, w3, w4⟩ rfl
theorem Tryd.asmMadeNo (s : ByteArray) (ln e : Int) (L : List HP) (hs : s.size ≤ 60000) (hM : Tryd.Mx L) (he : e ≠ 0) (hR : txF X0 (splL 10 s.data.toList) = .fail ln e) :
    Con Tryd.prog 22 [.string s] L (Is (.tuple #[.pointer none, .int .i64 ln, .int .i64 e]) L) := by
  have ht := fun o L h => Tryd.asmLOpen (Tryd.asmText o s L _ (by omega) h hR)
  clear hR
  refine con_of Tryd.tysOk Tryd.func22 rfl rfl ?_
  conv => whnf
  repeat' (first
    | ((with_reducible refine Br.df ?_ ?_); (focus (first | assumption | omega)); conv => whnf)
    | ((with_reducible refine Nc.go' (fun _ => ?_)); conv => whnf)
    | ((with_reducible refine Nw.map .string (fun _ => ?_)); conv => whnf))
  rename_i mb o
  conv => whnf
  repeat' (first
    | ((with_reducible refine Br.ndt ?_ ?_); (focus (first | assumption | omega)); conv => whnf)
    | (refine Ld.at 0 rfl rfl ?_; conv => whnf)
    | ((with_reducible refine Dr.by (id := 6) Tryd.tysOk rfl [(0, 0), (1, 0), (2, 0), (4, 0), (5, 0), (3, 1), (6, 0), (7, 0)] ?_ ?_); (focus kernel_rfl); conv => whnf)
    | (apply (Cl.pre [Tryd.asmH o X0]); (focus ((repeat (first | exact FEnt.rfl | (apply Tryd.asmShut0))); done)); refine Cl.exs (ht o _ (by ((repeat (first | assumption | apply Tryd.mxCons | apply Tryd.mxApp)); done))) ?_; rintro ⟨⟨bs, labs, us, line⟩, a, c, mb5, a', c'⟩ ⟨rfl, w1, w2, w3, w4⟩; conv => whnf))
  all_goals first | (exfalso; omega) | (refine Is.ent ?_ ?_; (focus (refine FEnt.ent ?_; (repeat (first | exact FEnt.rfl | refine FEnt.drop ?_)); done)); (exact Is.rfl))
noncomputable def asR : TxR → List UInt8 × Int × Int
  | .done bs _ => (bs, 0, 0)
  | .fail ln e => ([], ln, e)
theorem pt_ne {labs : List (ByteArray × Int)} : ∀ (us : List (ByteArray × Int × Int)) (bs : List UInt8) (ln e : Int), ptF labs bs us = .fail ln e → e ≠ 0
  | [], bs, ln, e, h => by rw [ptF] at h; cases h
  | u :: r, bs, ln, e, h => by
    rw [ptF] at h
    cases hl : lkF labs u.1 with
    | none => rw [hl] at h; injection h with h1 h2; rw [← h2]; decide
    | some v => rw [hl] at h; exact pt_ne r _ _ _ h
theorem tx_ne : ∀ (r : List (List UInt8)) (X : Aob) (ln e : Int), txF X r = .fail ln e → e ≠ 0
  | [], X, ln, e, h => pt_ne _ _ _ _ h
  | l :: r, X, ln, e, h => by
    rw [txF] at h
    by_cases hE : rdE ⟨X.bs, X.labs, X.uses, X.line + 1⟩ (lnF l) ≠ 0
    · rw [if_pos hE] at h; injection h with h1 h2; rw [← h2]; exact hE
    · rw [if_neg hE] at h; exact tx_ne r _ _ _ h
theorem Tryd.asmAssemble (s : ByteArray) (L : List HP) (hs : s.size ≤ 60000) (hM : Tryd.Mx L) :
    Con Tryd.prog 13 [.string s] L (Is (.tuple #[.string (bsL (asR (txF X0 (splL 10 s.data.toList))).1), .int .i64 (asR (txF X0 (splL 10 s.data.toList))).2.1, .int .i64 (asR (txF X0 (splL 10 s.data.toList))).2.2]) L) := by
  cases hR : txF X0 (splL 10 s.data.toList) with
  | done bs labs =>
    have hm := fun L h => Tryd.asmMade s bs labs L hs h hR
    show Con Tryd.prog 13 [.string s] L (Is (.tuple #[.string (bsL bs), .int .i64 0, .int .i64 0]) L)
    clear hR
    refine con_of Tryd.tysOk Tryd.func13 rfl rfl ?_
    conv => whnf
    repeat' (first
      | ((with_reducible refine Br.ndf ?_ ?_); (focus (first | assumption | omega)); conv => whnf)
      | ((with_reducible refine Nd.mk ?_ ?_); (focus (first | omega | rfl | assumption | (simp; done))); conv => whnf)
      | (refine Ld.at 0 rfl rfl ?_; conv => whnf)
      | ((with_reducible refine Cl.exs (hm _ (by ((repeat (first | assumption | apply Tryd.mxCons | apply Tryd.mxApp)); done))) (fun ⟨o, ⟨bs5, labs5, us5, line5⟩, a, c, mb5, a', c'⟩ ⟨⟨e1, e2⟩, w1, w2, w3, w4⟩ => ?_)); conv => whnf)
      | ((with_reducible refine (?_ : Sm _ (convert _ _ _) _ _)); ((apply (Sm.b2s Tryd.tysOk)); ((focus rfl); (focus ((repeat ((refine Rd.own 1 rfl ?_); (assumption))); done))); (focus rfl); (focus rfl); (focus rfl); (focus rfl); (focus rfl); (focus rfl); conv => whnf)))
    all_goals try (exfalso; omega)
    all_goals (
      dsimp only at e1 e2
      subst e1
      (refine Is.ent ?_ ?_; (focus (refine FEnt.ent ?_; (repeat (first | exact FEnt.rfl | refine FEnt.drop ?_)); done)); (exact Is.rfl)))
  | fail ln e =>
    have he := tx_ne _ _ _ _ hR
    have hm := fun L h => Tryd.asmMadeNo s ln e L hs h he hR
    show Con Tryd.prog 13 [.string s] L (Is (.tuple #[.string (bsL []), .int .i64 ln, .int .i64 e]) L)
    clear hR
    refine con_of Tryd.tysOk Tryd.func13 rfl rfl ?_
    conv => whnf
    repeat' (first
      | ((with_reducible refine Br.ndt ?_ ?_); (focus (first | assumption | omega)); conv => whnf)
      | ((with_reducible refine Nd.mk ?_ ?_); (focus (first | omega | rfl | assumption | (simp; done))); conv => whnf)
      | ((with_reducible refine Cl.is (hm _ (by ((repeat (first | assumption | apply Tryd.mxCons | apply Tryd.mxApp)); done))) ?_); conv => whnf))
    all_goals first | (exfalso; omega) | (refine Is.ent ?_ ?_; (focus (exact Ent.rfl)); (exact Is.rfl))
end Go.Proofs
