/- From a contract to the row's own words. -/
import Derived.Test.YtdjpcfaidgofoaaGreatTopLw
import Derived.Test.YtdjpcfaidgofoaaGreatEngRules
import Derived.ChangeSame
import Derived.RowKit3
import Derived.ProofKit
import Derived.OpenShut
set_option linter.all false
namespace Go.Proofs
open Go.Eng
set_option linter.unusedVariables false
set_option maxRecDepth 100000
set_option maxHeartbeats 8000000
theorem Tryz.topBad (s : ByteArray) (f : Bool) (L : List HP) (hs : s.size ≤ 700) (ht : (lawT s f).size ≤ 1000000) (h0 : imgE (lawT s f) = 0) (hR : ¬ Right (cfgS (lawT s f))) : Con Tryz.prog 3 [.string s, .bool f] L (Is (.bool true) L) := by
  have hbg := fun L => Tryz.begun L
  have hse : ∀ L, Con Tryz.prog 5 [.string ((⟨#[67, 1]⟩ : ByteArray) ++ s)] L (Is (.string (sealB ((⟨#[67, 1]⟩ : ByteArray) ++ s))) L) := fun L => Tryz.seal08 _ L (by rw [ByteArray.size_append]; have : (⟨#[67, 1]⟩ : ByteArray).size = 2 := rfl; omega)
  have hb : bootE (lawT s f) = 11 := by unfold bootE; rw [if_pos h0, if_neg hR]
  have hp := fun L => Tryz.refParse (lawT s f) L ht
  have hi := fun L => Tryz.imgBoot (lawT s f) L ht
  have hm := fun L => Tryz.mchNo (lawT s f) L ht (by rw [hb]; decide)
  have hl : ∀ y : Btl, BtOk (lawT s f) y → 0 < y.2.2.1 := fun y h => h.l.2 hb
  have hne : ∀ {α : Type} (y : Cfg) (fl : List α), TbIs (lawT s f) y → (fl = [] ↔ Right y) → 0 < fl.length := fun {α} y fl ht he => by
    cases fl with
    | nil => exact absurd ((right_tb ht).1 (he.1 rfl)) hR
    | cons => exact Nat.succ_pos _
  unfold Tryz.PrsP at hp
  unfold Tryz.BtP at hi
  rw [hb] at hi hm
  rw [h0] at hp
  clear hb ht h0 hR
  cases f with
  | false =>
    have he : lawT s false = s := rfl
    rw [he] at hp hi hm hl hne
    refine con_of Tryz.tysOk Tryz.func3 rfl rfl ?_
    conv => whnf
    repeat' (first
      | (first | ((with_reducible refine Br.tt ?_); conv => whnf) | ((with_reducible refine Br.ff ?_); conv => whnf) | ((with_reducible refine Br.nn ?_); conv => whnf) | ((with_reducible refine Br.dt ?_ ?_); (focus (first | assumption | omega)); conv => whnf) | ((with_reducible refine Br.df ?_ ?_); (focus (first | assumption | omega)); conv => whnf) | ((with_reducible refine Br.ndt ?_ ?_); (focus (first | assumption | omega)); conv => whnf))
      | ((with_reducible refine Nd.mk ?_ ?_); (focus (first | omega | rfl | assumption | (simp; done))); conv => whnf)
      | ((with_reducible refine Nc.go' (fun _ => ?_)); conv => whnf)
      | (refine LdN.at 0 rfl (by first | exact Nat.le_of_ble_eq_true rfl | (simp; done)) ?_; conv => whnf)
      | (refine St.at 0 rfl (by first | exact Nat.le_of_ble_eq_true rfl | (simp; done)) rfl ?_; conv => whnf)
      | (first | ((with_reducible refine Cl.is (hbg _) ?_); conv => whnf) | ((with_reducible refine (?_ : Cl _ 6 _ _ _ _)); (refine Cl.exs (hp _) ?_; rintro C ⟨ht, ⟨w1, w2⟩, ⟨s1, s2⟩, c1, c2⟩); conv => whnf) | ((with_reducible refine (?_ : Cl _ 7 _ _ _ _)); (refine Cl.exs (Tryz.refFaults C _ (tb_bd (ht rfl) ⟨⟨w1, w2⟩, ⟨s1, s2⟩, c1, c2⟩) (by ((repeat ((refine Rd.own 1 rfl ?_); (assumption))); done)) (by ((repeat ((refine Rd.own 2 rfl ?_); (assumption))); done)) (by ((repeat ((refine Rd.own 3 rfl ?_); (assumption))); done))) ?_; rintro ⟨fa0, fc0, fl⟩ ⟨hfl, hfe⟩; have hpos := hne C _ (ht rfl) hfe; dsimp only at hfl hpos ⊢); conv => whnf) | ((with_reducible refine (?_ : Cl _ 8 _ _ _ _)); (refine Cl.exs (hi _) ?_; rintro ⟨D, la, ln, lc⟩ hD; have hl0 := hl _ hD; dsimp only at hl0 ⊢); conv => whnf) | ((with_reducible refine (?_ : Cl _ 9 _ _ _ _)); (refine Cl.exs (hm _) ?_; rintro ⟨fa, fn, fc⟩ -); conv => whnf)))
    all_goals try (exfalso; omega)
    all_goals (rw [show (decide ((11 : Int) = 11) == decide ((0 : Int) < (ln : Int))) = true by rw [decide_eq_true (show (0 : Int) < (ln : Int) by omega)]; rfl]; (refine Is.ent ?_ ?_; (focus (refine FEnt.ent ?_; (repeat (first | exact FEnt.rfl | refine FEnt.drop ?_)); done)); (exact Is.rfl)))
  | true =>
    have he : lawT s true = sealB ((⟨#[67, 1]⟩ : ByteArray) ++ s) := rfl
    rw [he] at hp hi hm hl hne
    clear he
    generalize sealB ((⟨#[67, 1]⟩ : ByteArray) ++ s) = u at *
    have hz2 : (⟨#[67, 1]⟩ : ByteArray).size = 2 := rfl
    refine con_of Tryz.tysOk Tryz.func3 rfl rfl ?_
    conv => whnf
    repeat' (first
      | (first | ((with_reducible refine Br.tt ?_); conv => whnf) | ((with_reducible refine Br.nn ?_); conv => whnf) | ((with_reducible refine Br.dt ?_ ?_); (focus (first | assumption | omega)); conv => whnf) | ((with_reducible refine Br.df ?_ ?_); (focus (first | assumption | omega)); conv => whnf) | ((with_reducible refine Br.ndt ?_ ?_); (focus (first | assumption | omega)); conv => whnf))
      | ((with_reducible refine Nd.mk ?_ ?_); (focus (first | omega | rfl | assumption | (simp; done))); conv => whnf)
      | ((with_reducible refine Nc.go' (fun _ => ?_)); conv => whnf)
      | (refine LdN.at 0 rfl (by first | exact Nat.le_of_ble_eq_true rfl | (simp; done)) ?_; conv => whnf)
      | (refine St.at 0 rfl (by first | exact Nat.le_of_ble_eq_true rfl | (simp; done)) rfl ?_; conv => whnf)
      | (first | ((with_reducible refine Cl.is (hbg _) ?_); conv => whnf) | ((with_reducible refine Cl.is (hse _) ?_); conv => whnf) | ((with_reducible refine (?_ : Cl _ 6 _ _ _ _)); (refine Cl.exs (hp _) ?_; rintro C ⟨ht, ⟨w1, w2⟩, ⟨s1, s2⟩, c1, c2⟩); conv => whnf) | ((with_reducible refine (?_ : Cl _ 7 _ _ _ _)); (refine Cl.exs (Tryz.refFaults C _ (tb_bd (ht rfl) ⟨⟨w1, w2⟩, ⟨s1, s2⟩, c1, c2⟩) (by ((repeat ((refine Rd.own 1 rfl ?_); (assumption))); done)) (by ((repeat ((refine Rd.own 2 rfl ?_); (assumption))); done)) (by ((repeat ((refine Rd.own 3 rfl ?_); (assumption))); done))) ?_; rintro ⟨fa0, fc0, fl⟩ ⟨hfl, hfe⟩; have hpos := hne C _ (ht rfl) hfe; dsimp only at hfl hpos ⊢); conv => whnf) | ((with_reducible refine (?_ : Cl _ 8 _ _ _ _)); (refine Cl.exs (hi _) ?_; rintro ⟨D, la, ln, lc⟩ hD; have hl0 := hl _ hD; dsimp only at hl0 ⊢); conv => whnf) | ((with_reducible refine (?_ : Cl _ 9 _ _ _ _)); (refine Cl.exs (hm _) ?_; rintro ⟨fa, fn, fc⟩ -); conv => whnf)))
    all_goals try (exfalso; omega)
    all_goals (rw [show (decide ((11 : Int) = 11) == decide ((0 : Int) < (ln : Int))) = true by rw [decide_eq_true (show (0 : Int) < (ln : Int) by omega)]; rfl]; (refine Is.ent ?_ ?_; (focus (refine FEnt.ent ?_; (repeat (first | exact FEnt.rfl | refine FEnt.drop ?_)); done)); (exact Is.rfl)))
end Go.Proofs
set_option linter.all false
namespace Go.Proofs
open Go.Eng
set_option linter.unusedVariables false
set_option maxRecDepth 100000
set_option maxHeartbeats 8000000
theorem tb_len {s : ByteArray} {C : Cfg} (h : TbIs s C) : C.ws.length ≤ 300 ∧ C.ss.length ≤ 300 ∧ C.xs.length ≤ 300 := by
  have h1 := u8_lt (sAt (cutB s) 4)
  have h2 := u8_lt (sAt (cutB s) (5 + 5 * l1 (cutB s)))
  have h3 := u8_lt (sAt (cutB s) (6 + 5 * l1 (cutB s) + 5 * l2 (cutB s)))
  rw [h.w, h.q, h.x, winsA_len, winsA_len, clisA_len]
  refine ⟨?_, ?_, ?_⟩
  · unfold l1; omega
  · unfold l2; omega
  · unfold l3; omega
theorem Tryz.topYes (s : ByteArray) (f : Bool) (L : List HP) (hs : s.size ≤ 700) (ht : (lawT s f).size ≤ 1000000) (h0 : imgE (lawT s f) = 0) (hR : Right (cfgS (lawT s f))) : Con Tryz.prog 3 [.string s, .bool f] L (Is (.bool true) L) := by
  have hbg := fun L => Tryz.begun L
  have hse : ∀ L, Con Tryz.prog 5 [.string ((⟨#[67, 1]⟩ : ByteArray) ++ s)] L (Is (.string (sealB ((⟨#[67, 1]⟩ : ByteArray) ++ s))) L) := fun L => Tryz.seal08 _ L (by rw [ByteArray.size_append]; have : (⟨#[67, 1]⟩ : ByteArray).size = 2 := rfl; omega)
  have hb : bootE (lawT s f) = 0 := by unfold bootE; rw [if_pos h0, if_pos hR]
  have hp := fun L => Tryz.refParse (lawT s f) L ht
  have hi := fun L => Tryz.imgBoot (lawT s f) L ht
  have hm := fun L => Tryz.mchBoot (lawT s f) L ht hb
  have hl : ∀ y : Btl, BtOk (lawT s f) y → y.2.2.1 = 0 ∧ TbIs (lawT s f) y.1 ∧ CapsOk y.1 := fun y h => ⟨by have := h.l; rw [hb] at this; omega, (h.ok hb).1, h.caps⟩
  have hne : ∀ {α : Type} (y : Cfg) (fl : List α), TbIs (lawT s f) y → (fl = [] ↔ Right y) → fl = [] := fun {α} y fl ht he => he.2 ((right_tb ht).2 hR)
  unfold Tryz.PrsP at hp
  unfold Tryz.BtP at hi
  rw [hb] at hi
  rw [h0] at hp
  clear hb ht h0 hR
  cases f with
  | false =>
    have he : lawT s false = s := rfl
    rw [he] at hp hi hm hl hne
    refine con_of Tryz.tysOk Tryz.func3 rfl rfl ?_
    conv => whnf
    repeat' (first
      | (first | ((with_reducible refine Br.tt ?_); conv => whnf) | ((with_reducible refine Br.ff ?_); conv => whnf) | ((with_reducible refine Br.dt ?_ ?_); (focus (first | assumption | omega)); conv => whnf) | ((with_reducible refine Br.df ?_ ?_); (focus (first | assumption | omega)); conv => whnf) | ((with_reducible refine Br.yes ?_ ?_); (focus (first | (simp; done) | (simp; omega))); conv => whnf))
      | ((with_reducible refine Nd.mk ?_ ?_); (focus (first | omega | rfl | assumption | (simp; done))); conv => whnf)
      | ((with_reducible refine Nc.go' (fun _ => ?_)); conv => whnf)
      | (refine Ld.at 12 rfl rfl ?_; conv => whnf)
      | (first | (refine LdN.at 0 rfl (by first | exact Nat.le_of_ble_eq_true rfl | (simp; done)) ?_; conv => whnf) | (refine LdN.at 8 rfl (by first | exact Nat.le_of_ble_eq_true rfl | (simp; done)) ?_; conv => whnf) | (refine LdN.at 12 rfl (by first | exact Nat.le_of_ble_eq_true rfl | (simp; done)) ?_; conv => whnf))
      | (refine St.at 0 rfl (by first | exact Nat.le_of_ble_eq_true rfl | (simp; done)) rfl ?_; conv => whnf)
      | ((with_reducible refine Dr.by (id := 10) Tryz.tysOk rfl [(0, 1), (1, 0), (2, 0), (3, 0), (4, 0), (5, 0), (6, 0), (7, 0), (8, 0), (9, 0), (10, 0), (11, 0), (12, 0), (13, 0), (14, 0), (15, 1), (16, 1), (17, 1), (18, 0), (19, 0), (20, 0), (22, 0), (21, 1), (23, 1), (24, 0), (25, 0), (26, 0), (27, 0)] ?_ ?_); (focus kernel_rfl); conv => whnf)
      | (first | ((with_reducible refine CD.is (fun M => hbg _) ?_); conv => whnf) | ((with_reducible refine (?_ : CD _ 10 _ _ _)); (refine CD.is (fun M => Tryz.cfgSame C D _ ((ht rfl).F.trans hD2.F.symm) ((ht rfl).w.trans hD2.w.symm) ((ht rfl).q.trans hD2.q.symm) ((ht rfl).x.trans hD2.x.symm) (tb_len (ht rfl)) (by ((repeat (first | ((refine Rd.own 6 rfl ?_); (assumption)) | apply Rd.cons | apply Rd.app)); done)) (by ((repeat (first | ((refine Rd.own 6 rfl ?_); (assumption)) | apply Rd.cons | apply Rd.app)); done)) (by ((repeat (first | ((refine Rd.own 6 rfl ?_); (assumption)) | apply Rd.cons | apply Rd.app)); done)) (by ((repeat (first | ((refine Rd.own 6 rfl ?_); (assumption)) | apply Rd.cons | apply Rd.app)); done)) (by ((repeat (first | ((refine Rd.own 6 rfl ?_); (assumption)) | apply Rd.cons | apply Rd.app)); done)) (by ((repeat (first | ((refine Rd.own 6 rfl ?_); (assumption)) | apply Rd.cons | apply Rd.app)); done))) ?_); conv => whnf) | ((with_reducible refine (?_ : CD _ 11 _ _ _)); (refine CD.isAt2 0 1 rfl rfl (fun M => Tryz.mchOwnersC z.C z.b z.bp _ _ _ _ _ _ _ _) ?_); conv => whnf))
      | (first | ((with_reducible refine (?_ : Cl _ 6 _ _ _ _)); (refine Cl.exs (hp _) ?_; rintro C ⟨ht, ⟨w1, w2⟩, ⟨s1, s2⟩, c1, c2⟩); conv => whnf) | ((with_reducible refine (?_ : Cl _ 7 _ _ _ _)); (refine Cl.exs (Tryz.refFaults C _ (tb_bd (ht rfl) ⟨⟨w1, w2⟩, ⟨s1, s2⟩, c1, c2⟩) (by ((repeat ((refine Rd.own 1 rfl ?_); (assumption))); done)) (by ((repeat ((refine Rd.own 2 rfl ?_); (assumption))); done)) (by ((repeat ((refine Rd.own 3 rfl ?_); (assumption))); done))) ?_; rintro ⟨fa0, fc0, fl⟩ ⟨hfl, hfe⟩; obtain rfl := hne C _ (ht rfl) hfe); conv => whnf) | ((with_reducible refine (?_ : Cl _ 8 _ _ _ _)); (refine Cl.exs (hi _) ?_; rintro ⟨D, la, ln, lc⟩ hD; obtain ⟨hl0, hD2, ⟨⟨w3, w4⟩, ⟨s3, s4⟩, c3, c4⟩⟩ := hl _ hD; dsimp only at hl0 hD2 w3 w4 s3 s4 c3 c4 ⊢; subst hl0); conv => whnf) | ((with_reducible refine (?_ : Cl _ 9 _ _ _ _)); (refine Cl.exs (hm _) ?_; rintro z hz; have hzx := hz.tb.x.trans (ht rfl).x.symm); conv => whnf)))
    all_goals try (exfalso; omega)
    all_goals (rw [hzx, decide_eq_true (show (C.xs.length : Int) = (C.xs.length : Int) from rfl)]; (try dsimp only [List.cons_append, List.nil_append]); (refine Is.ent ?_ ?_; (focus (refine FEnt.ent ?_; (repeat (first | exact FEnt.rfl | refine FEnt.drop ?_)); done)); (exact Is.rfl)))
  | true =>
    have he : lawT s true = sealB ((⟨#[67, 1]⟩ : ByteArray) ++ s) := rfl
    rw [he] at hp hi hm hl hne
    clear he
    generalize sealB ((⟨#[67, 1]⟩ : ByteArray) ++ s) = u at *
    have hz2 : (⟨#[67, 1]⟩ : ByteArray).size = 2 := rfl
    refine con_of Tryz.tysOk Tryz.func3 rfl rfl ?_
    conv => whnf
    repeat' (first
      | (first | ((with_reducible refine Br.tt ?_); conv => whnf) | ((with_reducible refine Br.dt ?_ ?_); (focus (first | assumption | omega)); conv => whnf) | ((with_reducible refine Br.df ?_ ?_); (focus (first | assumption | omega)); conv => whnf) | ((with_reducible refine Br.yes ?_ ?_); (focus (first | (simp; done) | (simp; omega))); conv => whnf))
      | ((with_reducible refine Nd.mk ?_ ?_); (focus (first | omega | rfl | assumption | (simp; done))); conv => whnf)
      | ((with_reducible refine Nc.go' (fun _ => ?_)); conv => whnf)
      | (refine Ld.at 12 rfl rfl ?_; conv => whnf)
      | (first | (refine LdN.at 0 rfl (by first | exact Nat.le_of_ble_eq_true rfl | (simp; done)) ?_; conv => whnf) | (refine LdN.at 8 rfl (by first | exact Nat.le_of_ble_eq_true rfl | (simp; done)) ?_; conv => whnf) | (refine LdN.at 12 rfl (by first | exact Nat.le_of_ble_eq_true rfl | (simp; done)) ?_; conv => whnf))
      | (refine St.at 0 rfl (by first | exact Nat.le_of_ble_eq_true rfl | (simp; done)) rfl ?_; conv => whnf)
      | ((with_reducible refine Dr.by (id := 10) Tryz.tysOk rfl [(0, 1), (1, 0), (2, 0), (3, 0), (4, 0), (5, 0), (6, 0), (7, 0), (8, 0), (9, 0), (10, 0), (11, 0), (12, 0), (13, 0), (14, 0), (15, 1), (16, 1), (17, 1), (18, 0), (19, 0), (20, 0), (22, 0), (21, 1), (23, 1), (24, 0), (25, 0), (26, 0), (27, 0)] ?_ ?_); (focus kernel_rfl); conv => whnf)
      | (first | ((with_reducible refine CD.is (fun M => hbg _) ?_); conv => whnf) | ((with_reducible refine (?_ : CD _ 10 _ _ _)); (refine CD.is (fun M => Tryz.cfgSame C D _ ((ht rfl).F.trans hD2.F.symm) ((ht rfl).w.trans hD2.w.symm) ((ht rfl).q.trans hD2.q.symm) ((ht rfl).x.trans hD2.x.symm) (tb_len (ht rfl)) (by ((repeat (first | ((refine Rd.own 6 rfl ?_); (assumption)) | apply Rd.cons | apply Rd.app)); done)) (by ((repeat (first | ((refine Rd.own 6 rfl ?_); (assumption)) | apply Rd.cons | apply Rd.app)); done)) (by ((repeat (first | ((refine Rd.own 6 rfl ?_); (assumption)) | apply Rd.cons | apply Rd.app)); done)) (by ((repeat (first | ((refine Rd.own 6 rfl ?_); (assumption)) | apply Rd.cons | apply Rd.app)); done)) (by ((repeat (first | ((refine Rd.own 6 rfl ?_); (assumption)) | apply Rd.cons | apply Rd.app)); done)) (by ((repeat (first | ((refine Rd.own 6 rfl ?_); (assumption)) | apply Rd.cons | apply Rd.app)); done))) ?_); conv => whnf) | ((with_reducible refine (?_ : CD _ 11 _ _ _)); (refine CD.isAt2 0 1 rfl rfl (fun M => Tryz.mchOwnersC z.C z.b z.bp _ _ _ _ _ _ _ _) ?_); conv => whnf))
      | (first | ((with_reducible refine Cl.is (hse _) ?_); conv => whnf) | ((with_reducible refine (?_ : Cl _ 6 _ _ _ _)); (refine Cl.exs (hp _) ?_; rintro C ⟨ht, ⟨w1, w2⟩, ⟨s1, s2⟩, c1, c2⟩); conv => whnf) | ((with_reducible refine (?_ : Cl _ 7 _ _ _ _)); (refine Cl.exs (Tryz.refFaults C _ (tb_bd (ht rfl) ⟨⟨w1, w2⟩, ⟨s1, s2⟩, c1, c2⟩) (by ((repeat ((refine Rd.own 1 rfl ?_); (assumption))); done)) (by ((repeat ((refine Rd.own 2 rfl ?_); (assumption))); done)) (by ((repeat ((refine Rd.own 3 rfl ?_); (assumption))); done))) ?_; rintro ⟨fa0, fc0, fl⟩ ⟨hfl, hfe⟩; obtain rfl := hne C _ (ht rfl) hfe); conv => whnf) | ((with_reducible refine (?_ : Cl _ 8 _ _ _ _)); (refine Cl.exs (hi _) ?_; rintro ⟨D, la, ln, lc⟩ hD; obtain ⟨hl0, hD2, ⟨⟨w3, w4⟩, ⟨s3, s4⟩, c3, c4⟩⟩ := hl _ hD; dsimp only at hl0 hD2 w3 w4 s3 s4 c3 c4 ⊢; subst hl0); conv => whnf) | ((with_reducible refine (?_ : Cl _ 9 _ _ _ _)); (refine Cl.exs (hm _) ?_; rintro z hz; have hzx := hz.tb.x.trans (ht rfl).x.symm); conv => whnf)))
    all_goals try (exfalso; omega)
    all_goals (rw [hzx, decide_eq_true (show (C.xs.length : Int) = (C.xs.length : Int) from rfl)]; (try dsimp only [List.cons_append, List.nil_append]); (refine Is.ent ?_ ?_; (focus (refine FEnt.ent ?_; (repeat (first | exact FEnt.rfl | refine FEnt.drop ?_)); done)); (exact Is.rfl)))
end Go.Proofs
set_option linter.all false
namespace Go.Proofs
open Go.Eng
set_option linter.unusedVariables false
set_option maxRecDepth 100000
set_option maxHeartbeats 8000000
theorem sealB_size (s : ByteArray) : (sealB s).size = s.size + 2 := by
  unfold sealB
  rw [ByteArray.size_append]
  rfl
theorem lawT_size {s : ByteArray} (f : Bool) (h : s.size ≤ 700) : (lawT s f).size ≤ 1000000 := by
  unfold lawT
  cases f with
  | false => rw [if_neg (by decide)]; omega
  | true =>
    rw [if_pos rfl, sealB_size, ByteArray.size_append]
    have : (⟨#[67, 1]⟩ : ByteArray).size = 2 := rfl
    omega
theorem Tryz.topAcceptsLaw (s : ByteArray) (f : Bool) (L : List HP) : Con Tryz.prog 3 [.string s, .bool f] L (Is (.bool true) L) := by
  by_cases hs : s.size ≤ 700
  · have ht := lawT_size f hs
    by_cases h0 : imgE (lawT s f) = 0
    · by_cases hR : Right (cfgS (lawT s f))
      · exact Tryz.topYes s f L hs ht h0 hR
      · exact Tryz.topBad s f L hs ht h0 hR
    · exact Tryz.topNo s f L hs ht h0
  · have hbg := fun L => Tryz.begun L
    refine con_of Tryz.tysOk Tryz.func3 rfl rfl ?_
    conv => whnf
    repeat' (first
      | ((with_reducible refine Br.dt ?_ ?_); (focus (first | assumption | omega)); conv => whnf)
      | ((with_reducible refine Cl.is (hbg _) ?_); conv => whnf))
    all_goals first | (exfalso; omega) | (refine Is.ent ?_ ?_; (focus (exact Ent.rfl)); (exact Is.rfl))
end Go.Proofs
set_option linter.all false
namespace Go.Eng
open Go.ChangeShapes
variable {P : Program}

/-- the world behind a call that has changed nothing of what was there -/
structure Stays (W w' : World) : Prop where
  kept : W.keptBut w' (fun _ => False)
  fz : ∀ b off, b < W.heap.size → w'.frozen? ⟨b, off, none⟩ = W.frozen? ⟨b, off, none⟩
  heap : ∀ b, b < W.heap.size → w'.heap[b]? = W.heap[b]?

theorem stays_of {W w' : World} {L : List HP} (s : Sat w' L) (i : Nat) (hi : L[i]? = some (old W)) : Stays W w' := by
  have hb : ∀ b, b < W.heap.size → w'.heap[b]? = W.heap[b]? := fun b h => by
    rw [Array.getElem?_eq_getElem h]
    exact s.old i hi (Array.getElem?_eq_getElem h)
  obtain ⟨h1, h2⟩ := s.out i hi
  refine ⟨⟨h1, h2, fun b h => ?_⟩, fun b off h => by simp only [World.frozen?]; rw [hb b h], hb⟩
  rw [hb b h]
  split
  · rename_i c t fr c' t' fr' e1 e2
    rw [e1] at e2
    cases e2
    exact ⟨rfl, rfl, rfl, fun _ _ => rfl⟩
  · rename_i es c es' c' e1 e2
    rw [e1] at e2
    cases e2
    exact .inr ⟨rfl, rfl⟩
  · rfl

theorem calls_of_con {f : FuncId} {args : List Value} {W : World} {R : Value → List HP → Prop} (c : Con P f args [old W] R) :
    Calls P f args.toArray W fun e w' => ∃ v L, e = .returned v ∧ Sat w' L ∧ R v L := by
  refine (c.run W (sat_start W)).mono fun e w' h => ?_
  cases e with
  | returned v => obtain ⟨L, s, r⟩ := h; exact ⟨v, L, rfl, s, r⟩
  | panicked ch => obtain ⟨_, _, r⟩ := h; exact r.elim
  | outgrown => exact h.elim

/-- a law's row: it returns true, all is as it was -/
theorem law_calls {f : FuncId} {args : List Value} {W : World} (c : Con P f args [old W] (Is (.bool true) [old W])) :
    Calls P f args.toArray W fun e w' => e = .returned (.bool true) ∧ Stays W w' := by
  refine (calls_of_con c).mono fun e w' h => ?_
  obtain ⟨v, L, rfl, s, r⟩ := h
  exact ⟨by rw [r.v], stays_of (r.l _ s) 0 rfl⟩

section
variable {H : Type} {enc : TypeId × Value → H}
/-- the kit's 'post_of_same', at a world that may hold new blocks of whatever kind -/
theorem post_stays {f : Func} {s : ChangeSpec} {apart fresh handsOn again : Bool} {W W' : World} {args : Array Value} {v : Value} {ds gs : List (DataW H)} {before pa pv : List MemPlace}
    (hW : DataW.Whole enc P f.params.toList s.vars apart W args.toList ds gs before)
    (hres : ∀ (b : Nat) (sp : Nat → Bool) (hd : Bool), DataW.TrodAll enc P W' b sp hd f.resultTypes.toList (v.resultList f.resultTypes.size) (s.fn H (ds ++ gs)).results [])
    (hargs : ∀ sp : Nat → Bool, (∀ p ∈ before, sp p.block = true) → DataW.TrodAll enc P W' 0 sp true f.params.toList args.toList (s.fn H (ds ++ gs)).args pa)
    (hvars : ∀ sp : Nat → Bool, (∀ p ∈ before, sp p.block = true) → DataW.TrodVars enc P W' sp s.vars (s.fn H (ds ++ gs)).vars pv)
    (hps : before = pa ++ pv) (hst : Stays W W')
    (hok : ∀ (j : Nat) (t : TypeId) (r : Value), f.resultTypes[j]? = some t → (v.resultList f.resultTypes.size)[j]? = some r → Value.okWide P W' .any 0 t r) :
    s.post enc P f apart fresh handsOn again W args v W' := by
  have hlt : ∀ p ∈ before, p.block < W.heap.size := fun p hp => hW.lt p hp
  have hold : ∀ p ∈ before, (fun b => decide (b < W.heap.size)) p.block = true := fun p hp => by simpa using hlt p hp
  refine ⟨ds, gs, before, [], pa, pv, hW, hres _ _ _, hargs _ hold, hvars _ hold, World.keptBut_mono (fun _ h => h.elim) hst.kept, fun _ => ?_⟩
  obtain ⟨_, _, _, _, _, hz, hn⟩ := hW
  refine ⟨hok, _, _, ([] ++ pa) ++ pv, ⟨[] ++ pa, pv, trodAll_append (hargs _ (fun _ _ => rfl)) (hres _ _ _), hvars _ (fun _ _ => rfl), rfl, ?_, ?_⟩, ?_⟩
  · intro b off hp
    have hp' : MemPlace.cell b off ∈ before := by rw [hps]; simpa using hp
    have hb := hlt _ hp'
    rw [hst.fz b off hb]
    exact hz b off hp'
  · intro ha
    have := hn ha
    rw [hps] at this
    simpa using this
  · intro p hp _
    rw [hps]
    simpa using hp
end
end Go.Eng
