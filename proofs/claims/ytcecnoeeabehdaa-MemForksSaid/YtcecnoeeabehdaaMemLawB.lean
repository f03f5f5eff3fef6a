/- The memory's laws: what is told, and whole plays. -/
import Derived.Test.YtcecnoeeabehdaaMemLaw
set_option linter.all false
namespace Go.Proofs
open Go.Eng
set_option linter.unusedVariables false
set_option maxRecDepth 100000
set_option maxHeartbeats 800000
theorem Try.told (b : Nat) (xs : List UInt8) (a : Option Addr) (c : Nat) (d : Deed) (L : List HP) (hx : xs.length ≤ 1000) (hd : deedI d) (hr : Rd intE L a (ints xs)) :
    Con Try.prog 26 [pV b, .slice a (ints xs).length c, deedV d] (Try.memH b xs :: L) (Is (.bool true) (Try.memH b xs :: L)) := by
  obtain ⟨o, p, n, s⟩ := d
  obtain ⟨ho, hp, hn⟩ := hd
  simp only at ho hp hn
  dsimp only [deedV]
  have hl := ints_len xs
  have e1 : (ints xs).getD p.toNat intE.d = bAt xs p.toNat := ints_getD xs _
  have hr1 : Rd intE (Try.memH b xs :: L) a (ints xs) := hr.cons
  by_cases h1 : thr xs.length p 1
  · by_cases h2 : thr xs.length p 2
    · have e2 : (ints xs).getD (p + 1).toNat intE.d = bAt xs (p.toNat + 1) := by rw [show (p + 1).toNat = p.toNat + 1 from by have := h1.1; omega]; exact ints_getD xs _
      by_cases h3 : n < 0
      · refine con_of Try.tysOk Try.func26 rfl rfl ?_
        conv => whnf
        repeat' (first
          | (first | ((with_reducible refine Br.tt ?_); conv => whnf) | ((with_reducible refine Br.ff ?_); conv => whnf) | ((with_reducible refine Br.nt ?_); conv => whnf) | ((with_reducible refine Br.dt ?_ ?_); (focus (first | assumption | omega)); conv => whnf) | ((with_reducible refine Br.ndf ?_ ?_); (focus (first | assumption | omega)); conv => whnf) | ((with_reducible refine Br.nef ?_ ?_); (focus (first | rfl | assumption)); conv => whnf) | ((with_reducible refine Br.eqf ?_ ?_); (focus (first | decide | assumption)); conv => whnf))
          | ((with_reducible refine Ar.i64 ?_ ?_); (focus omega); conv => whnf)
          | ((with_reducible refine Nd.mk ?_ ?_); (focus (first | omega | rfl | assumption | (simp; done))); conv => whnf)
          | ((with_reducible refine Nc.go' (fun b => ?_)); conv => whnf)
          | ((with_reducible refine Ix.ad ?_ ?_ ?_); (focus (exact Rd.ad (by assumption))); (focus (omega)); conv => whnf)
          | (first | ((apply Ld.rd0); (focus ((repeat (first | assumption | apply Rd.cons)); done)); (focus rfl); (focus (omega)); (focus rfl); conv => whnf) | (refine Ld.at 0 rfl rfl ?_; conv => whnf))
          | ((with_reducible refine Dr.by (id := 4) Try.tysOk rfl [(0, 0), (1, 0), (4, 0), (5, 0), (2, 1), (3, 1), (6, 1), (7, 1), (8, 0), (9, 0)] ?_ ?_); (focus kernel_rfl); conv => whnf)
          | ((with_reducible refine Dr.by (id := 7) Try.tysOk rfl [(0, 0), (1, 0), (2, 0), (3, 0), (4, 0), (5, 0), (6, 0), (7, 0), (8, 0), (9, 0), (10, 0), (11, 0), (12, 0), (13, 0), (14, 0), (15, 0), (19, 0), (20, 0), (16, 1), (17, 0), (18, 1), (21, 1), (22, 0), (23, 0), (24, 1), (25, 1), (26, 0), (27, 0), (28, 0), (29, 0), (30, 0), (31, 0), (32, 0), (33, 0), (34, 0), (35, 0), (36, 0)] ?_ ?_); (focus kernel_rfl); conv => whnf)
          | (first | ((with_reducible refine CD.is (fun M => Try.refThereT _ _ _ _ _ _ (by omega) ⟨by omega, by omega⟩ (by omega) ⟨by omega, by omega⟩) ?_); conv => whnf) | ((with_reducible refine CD.is (fun M => Try.refTwoB (xs.getD p.toNat 0) (xs.getD (p.toNat + 1) 0) _) ?_); conv => whnf))
          | (first | ((refine Cl.isAt 1 rfl (Try.memGet _ _ p.toNat p _ (by omega) (by omega) (by omega)) ?_); conv => whnf) | ((refine Cl.isAt 1 rfl (Try.memGet2 _ _ p.toNat p _ (by omega) (by omega) (by omega)) ?_); conv => whnf) | ((refine Cl.isAt 1 rfl (Try.memTextArg _ _ _ _ _ (by omega) hp hn h3) ?_); conv => whnf))
          | ((rw [e1]); conv => whnf)
          | ((rw [e2]); conv => whnf)
          | ((with_reducible refine Br.nds (fun _ => ?_) (fun _ => ?_) ) <;> (conv => whnf)))
        all_goals first | (rename_i hbad; exact (hbad rfl).elim) | (refine Is.ent ?_ ?_; (focus (refine FEnt.ent ?_; (repeat (first | exact FEnt.rfl | (refine FEnt.at 1 rfl ?_; (try simp only [List.eraseIdx_cons_zero, List.eraseIdx_cons_succ, List.eraseIdx_zero, List.tail_cons])) | refine FEnt.drop ?_)); done)); (exact Is.rfl))
      · by_cases h4 : thr xs.length p n
        · refine con_of Try.tysOk Try.func26 rfl rfl ?_
          conv => whnf
          repeat' (first
            | (first | ((with_reducible refine Br.tt ?_); conv => whnf) | ((with_reducible refine Br.ff ?_); conv => whnf) | ((with_reducible refine Br.nt ?_); conv => whnf) | ((with_reducible refine Br.dt ?_ ?_); (focus (first | assumption | omega)); conv => whnf) | ((with_reducible refine Br.df ?_ ?_); (focus (first | assumption | omega)); conv => whnf) | ((with_reducible refine Br.ndf ?_ ?_); (focus (first | assumption | omega)); conv => whnf) | ((with_reducible refine Br.nef ?_ ?_); (focus (first | rfl | assumption)); conv => whnf) | ((with_reducible refine Br.eqf ?_ ?_); (focus (first | decide | assumption)); conv => whnf))
            | ((with_reducible refine Ar.i64 ?_ ?_); (focus omega); conv => whnf)
            | ((with_reducible refine Nd.mk ?_ ?_); (focus (first | omega | rfl | assumption | (simp; done))); conv => whnf)
            | ((with_reducible refine Nc.go' (fun b => ?_)); conv => whnf)
            | ((with_reducible refine Ix.ad ?_ ?_ ?_); (focus (exact Rd.ad (by assumption))); (focus (omega)); conv => whnf)
            | (first | ((apply Ld.rd0); (focus ((repeat (first | assumption | apply Rd.cons)); done)); (focus rfl); (focus (omega)); (focus rfl); conv => whnf) | (refine Ld.at 0 rfl rfl ?_; conv => whnf))
            | ((with_reducible refine Dr.by (id := 4) Try.tysOk rfl [(0, 0), (1, 0), (4, 0), (5, 0), (2, 1), (3, 1), (6, 1), (7, 1), (8, 0), (9, 0)] ?_ ?_); (focus kernel_rfl); conv => whnf)
            | ((with_reducible refine Dr.by (id := 7) Try.tysOk rfl [(0, 0), (1, 0), (2, 0), (3, 0), (4, 0), (5, 0), (6, 0), (7, 0), (8, 0), (9, 0), (10, 0), (11, 0), (12, 0), (13, 0), (14, 0), (15, 0), (19, 0), (20, 0), (16, 1), (17, 0), (18, 1), (21, 1), (22, 0), (23, 0), (24, 1), (25, 1), (26, 0), (27, 0), (28, 0), (29, 0), (30, 0), (31, 0), (32, 0), (33, 0), (34, 0), (35, 0), (36, 0)] ?_ ?_); (focus kernel_rfl); conv => whnf)
            | (first | ((with_reducible refine CD.is (fun M => Try.refThereT _ _ _ _ _ _ (by omega) ⟨by omega, by omega⟩ (by omega) ⟨by omega, by omega⟩) ?_); conv => whnf) | ((with_reducible refine CD.is (fun M => Try.refTwoB (xs.getD p.toNat 0) (xs.getD (p.toNat + 1) 0) _) ?_); conv => whnf))
            | (first | ((refine Cl.isAt 1 rfl (Try.memGet _ _ p.toNat p _ (by omega) (by omega) (by omega)) ?_); conv => whnf) | ((refine Cl.isAt 1 rfl (Try.memGet2 _ _ p.toNat p _ (by omega) (by omega) (by omega)) ?_); conv => whnf) | ((refine Cl.isAt 1 rfl (Try.memText _ _ p.toNat n.toNat _ _ _ (by omega) (by omega) (by omega) (by omega)) ?_); conv => whnf) | ((with_reducible refine Cl.is (Try.refThereT _ _ _ _ _ _ (by omega) ⟨by omega, by omega⟩ (by omega) ⟨by omega, by omega⟩) ?_); conv => whnf) | ((with_reducible refine Cl.is (Try.refTextB _ _ p.toNat n.toNat _ _ xs _ (by omega) (by omega) (by omega) (by omega) (by ((repeat (first | assumption | apply Rd.cons)); done))) ?_); conv => whnf))
            | ((rw [e1]); conv => whnf)
            | ((rw [e2]); conv => whnf)
            | ((with_reducible refine Br.nds (fun _ => ?_) (fun _ => ?_) ) <;> (conv => whnf)))
          all_goals first | (rename_i hbad; exact (hbad rfl).elim) | (refine Is.ent ?_ ?_; (focus (refine FEnt.ent ?_; (repeat (first | exact FEnt.rfl | (refine FEnt.at 1 rfl ?_; (try simp only [List.eraseIdx_cons_zero, List.eraseIdx_cons_succ, List.eraseIdx_zero, List.tail_cons])) | refine FEnt.drop ?_)); done)); (exact Is.bool (by simp)))
        · refine con_of Try.tysOk Try.func26 rfl rfl ?_
          conv => whnf
          repeat' (first
            | (first | ((with_reducible refine Br.tt ?_); conv => whnf) | ((with_reducible refine Br.ff ?_); conv => whnf) | ((with_reducible refine Br.nt ?_); conv => whnf) | ((with_reducible refine Br.nf ?_); conv => whnf) | ((with_reducible refine Br.dt ?_ ?_); (focus (first | assumption | omega)); conv => whnf) | ((with_reducible refine Br.df ?_ ?_); (focus (first | assumption | omega)); conv => whnf) | ((with_reducible refine Br.ndf ?_ ?_); (focus (first | assumption | omega)); conv => whnf) | ((with_reducible refine Br.nef ?_ ?_); (focus (first | rfl | assumption)); conv => whnf) | ((with_reducible refine Br.eqf ?_ ?_); (focus (first | decide | assumption)); conv => whnf))
            | ((with_reducible refine Ar.i64 ?_ ?_); (focus omega); conv => whnf)
            | ((with_reducible refine Nd.mk ?_ ?_); (focus (first | omega | rfl | assumption | (simp; done))); conv => whnf)
            | ((with_reducible refine Nc.go' (fun b => ?_)); conv => whnf)
            | ((with_reducible refine Ix.ad ?_ ?_ ?_); (focus (exact Rd.ad (by assumption))); (focus (omega)); conv => whnf)
            | (first | ((apply Ld.rd0); (focus ((repeat (first | assumption | apply Rd.cons)); done)); (focus rfl); (focus (omega)); (focus rfl); conv => whnf) | (refine Ld.at 0 rfl rfl ?_; conv => whnf))
            | ((with_reducible refine Dr.by (id := 4) Try.tysOk rfl [(0, 0), (1, 0), (4, 0), (5, 0), (2, 1), (3, 1), (6, 1), (7, 1), (8, 0), (9, 0)] ?_ ?_); (focus kernel_rfl); conv => whnf)
            | ((with_reducible refine Dr.by (id := 7) Try.tysOk rfl [(0, 0), (1, 0), (2, 0), (3, 0), (4, 0), (5, 0), (6, 0), (7, 0), (8, 0), (9, 0), (10, 0), (11, 0), (12, 0), (13, 0), (14, 0), (15, 0), (19, 0), (20, 0), (16, 1), (17, 0), (18, 1), (21, 1), (22, 0), (23, 0), (24, 1), (25, 1), (26, 0), (27, 0), (28, 0), (29, 0), (30, 0), (31, 0), (32, 0), (33, 0), (34, 0), (35, 0), (36, 0)] ?_ ?_); (focus kernel_rfl); conv => whnf)
            | (first | ((with_reducible refine CD.is (fun M => Try.refThereT _ _ _ _ _ _ (by omega) ⟨by omega, by omega⟩ (by omega) ⟨by omega, by omega⟩) ?_); conv => whnf) | ((with_reducible refine CD.is (fun M => Try.refTwoB (xs.getD p.toNat 0) (xs.getD (p.toNat + 1) 0) _) ?_); conv => whnf))
            | (first | ((refine Cl.isAt 1 rfl (Try.memGet _ _ p.toNat p _ (by omega) (by omega) (by omega)) ?_); conv => whnf) | ((refine Cl.isAt 1 rfl (Try.memGet2 _ _ p.toNat p _ (by omega) (by omega) (by omega)) ?_); conv => whnf) | ((refine Cl.isAt 1 rfl (Try.memTextNo _ _ _ _ _ (by omega) hp hn (by omega) h4) ?_); conv => whnf) | ((with_reducible refine Cl.is (Try.refThereF _ _ _ _ _ _ (by omega) hp hn (by omega) (mt (fun h => ⟨by omega, by omega⟩) h4)) ?_); conv => whnf))
            | ((rw [e1]); conv => whnf)
            | ((rw [e2]); conv => whnf)
            | ((with_reducible refine Br.nds (fun _ => ?_) (fun _ => ?_) ) <;> (conv => whnf)))
          all_goals first | (rename_i hbad; exact (hbad rfl).elim) | (refine Is.ent ?_ ?_; (focus (refine FEnt.ent ?_; (repeat (first | exact FEnt.rfl | (refine FEnt.at 1 rfl ?_; (try simp only [List.eraseIdx_cons_zero, List.eraseIdx_cons_succ, List.eraseIdx_zero, List.tail_cons])) | refine FEnt.drop ?_)); done)); (exact Is.rfl))
    · by_cases h3 : n < 0
      · refine con_of Try.tysOk Try.func26 rfl rfl ?_
        conv => whnf
        repeat' (first
          | (first | ((with_reducible refine Br.tt ?_); conv => whnf) | ((with_reducible refine Br.ff ?_); conv => whnf) | ((with_reducible refine Br.nt ?_); conv => whnf) | ((with_reducible refine Br.nf ?_); conv => whnf) | ((with_reducible refine Br.dt ?_ ?_); (focus (first | assumption | omega)); conv => whnf) | ((with_reducible refine Br.ndf ?_ ?_); (focus (first | assumption | omega)); conv => whnf) | ((with_reducible refine Br.nef ?_ ?_); (focus (first | rfl | assumption)); conv => whnf) | ((with_reducible refine Br.eqf ?_ ?_); (focus (first | decide | assumption)); conv => whnf))
          | ((with_reducible refine Nd.mk ?_ ?_); (focus (first | omega | rfl | assumption | (simp; done))); conv => whnf)
          | ((with_reducible refine Nc.go' (fun b => ?_)); conv => whnf)
          | ((with_reducible refine Ix.ad ?_ ?_ ?_); (focus (exact Rd.ad (by assumption))); (focus (omega)); conv => whnf)
          | (first | ((apply Ld.rd0); (focus ((repeat (first | assumption | apply Rd.cons)); done)); (focus rfl); (focus (omega)); (focus rfl); conv => whnf) | (refine Ld.at 0 rfl rfl ?_; conv => whnf))
          | ((with_reducible refine Dr.by (id := 4) Try.tysOk rfl [(0, 0), (1, 0), (4, 0), (5, 0), (2, 1), (3, 1), (6, 1), (7, 1), (8, 0), (9, 0)] ?_ ?_); (focus kernel_rfl); conv => whnf)
          | ((with_reducible refine Dr.by (id := 7) Try.tysOk rfl [(0, 0), (1, 0), (2, 0), (3, 0), (4, 0), (5, 0), (6, 0), (7, 0), (8, 0), (9, 0), (10, 0), (11, 0), (12, 0), (13, 0), (14, 0), (15, 0), (19, 0), (20, 0), (16, 1), (17, 0), (18, 1), (21, 1), (22, 0), (23, 0), (24, 1), (25, 1), (26, 0), (27, 0), (28, 0), (29, 0), (30, 0), (31, 0), (32, 0), (33, 0), (34, 0), (35, 0), (36, 0)] ?_ ?_); (focus kernel_rfl); conv => whnf)
          | (first | ((with_reducible refine CD.is (fun M => Try.refThereF _ _ _ p 2 _ (by omega) hp ⟨by omega, by omega⟩ (by omega) (mt (fun h => ⟨by omega, by omega⟩) h2)) ?_); conv => whnf) | ((with_reducible refine CD.is (fun M => Try.refThereT _ _ _ p 1 _ (by omega) ⟨by omega, by omega⟩ (by omega) ⟨by omega, by omega⟩) ?_); conv => whnf))
          | (first | ((refine Cl.isAt 1 rfl (Try.memGet _ _ p.toNat p _ (by omega) (by omega) (by omega)) ?_); conv => whnf) | ((refine Cl.isAt 1 rfl (Try.memGet2No _ _ _ _ (by omega) hp h2) ?_); conv => whnf) | ((refine Cl.isAt 1 rfl (Try.memTextArg _ _ _ _ _ (by omega) hp hn h3) ?_); conv => whnf)))
        all_goals first | (rename_i hbad; exact (hbad rfl).elim) | (refine Is.ent ?_ ?_; (focus (refine FEnt.ent ?_; (repeat (first | exact FEnt.rfl | (refine FEnt.at 1 rfl ?_; (try simp only [List.eraseIdx_cons_zero, List.eraseIdx_cons_succ, List.eraseIdx_zero, List.tail_cons])) | refine FEnt.drop ?_)); done)); (exact Is.rfl))
      · by_cases h4 : thr xs.length p n
        · refine con_of Try.tysOk Try.func26 rfl rfl ?_
          conv => whnf
          repeat' (first
            | (first | ((with_reducible refine Br.tt ?_); conv => whnf) | ((with_reducible refine Br.ff ?_); conv => whnf) | ((with_reducible refine Br.nt ?_); conv => whnf) | ((with_reducible refine Br.nf ?_); conv => whnf) | ((with_reducible refine Br.dt ?_ ?_); (focus (first | assumption | omega)); conv => whnf) | ((with_reducible refine Br.df ?_ ?_); (focus (first | assumption | omega)); conv => whnf) | ((with_reducible refine Br.ndf ?_ ?_); (focus (first | assumption | omega)); conv => whnf) | ((with_reducible refine Br.nef ?_ ?_); (focus (first | rfl | assumption)); conv => whnf) | ((with_reducible refine Br.eqf ?_ ?_); (focus (first | decide | assumption)); conv => whnf))
            | ((with_reducible refine Nd.mk ?_ ?_); (focus (first | omega | rfl | assumption | (simp; done))); conv => whnf)
            | ((with_reducible refine Nc.go' (fun b => ?_)); conv => whnf)
            | ((with_reducible refine Ix.ad ?_ ?_ ?_); (focus (exact Rd.ad (by assumption))); (focus (omega)); conv => whnf)
            | (first | ((apply Ld.rd0); (focus ((repeat (first | assumption | apply Rd.cons)); done)); (focus rfl); (focus (omega)); (focus rfl); conv => whnf) | (refine Ld.at 0 rfl rfl ?_; conv => whnf))
            | ((with_reducible refine Dr.by (id := 4) Try.tysOk rfl [(0, 0), (1, 0), (4, 0), (5, 0), (2, 1), (3, 1), (6, 1), (7, 1), (8, 0), (9, 0)] ?_ ?_); (focus kernel_rfl); conv => whnf)
            | ((with_reducible refine Dr.by (id := 7) Try.tysOk rfl [(0, 0), (1, 0), (2, 0), (3, 0), (4, 0), (5, 0), (6, 0), (7, 0), (8, 0), (9, 0), (10, 0), (11, 0), (12, 0), (13, 0), (14, 0), (15, 0), (19, 0), (20, 0), (16, 1), (17, 0), (18, 1), (21, 1), (22, 0), (23, 0), (24, 1), (25, 1), (26, 0), (27, 0), (28, 0), (29, 0), (30, 0), (31, 0), (32, 0), (33, 0), (34, 0), (35, 0), (36, 0)] ?_ ?_); (focus kernel_rfl); conv => whnf)
            | (first | ((with_reducible refine CD.is (fun M => Try.refThereF _ _ _ p 2 _ (by omega) hp ⟨by omega, by omega⟩ (by omega) (mt (fun h => ⟨by omega, by omega⟩) h2)) ?_); conv => whnf) | ((with_reducible refine CD.is (fun M => Try.refThereT _ _ _ _ _ _ (by omega) ⟨by omega, by omega⟩ (by omega) ⟨by omega, by omega⟩) ?_); conv => whnf))
            | (first | ((refine Cl.isAt 1 rfl (Try.memGet _ _ p.toNat p _ (by omega) (by omega) (by omega)) ?_); conv => whnf) | ((refine Cl.isAt 1 rfl (Try.memGet2No _ _ _ _ (by omega) hp h2) ?_); conv => whnf) | ((refine Cl.isAt 1 rfl (Try.memText _ _ p.toNat n.toNat _ _ _ (by omega) (by omega) (by omega) (by omega)) ?_); conv => whnf) | ((with_reducible refine Cl.is (Try.refThereT _ _ _ _ _ _ (by omega) ⟨by omega, by omega⟩ (by omega) ⟨by omega, by omega⟩) ?_); conv => whnf) | ((with_reducible refine Cl.is (Try.refTextB _ _ p.toNat n.toNat _ _ xs _ (by omega) (by omega) (by omega) (by omega) (by ((repeat (first | assumption | apply Rd.cons)); done))) ?_); conv => whnf)))
          all_goals first | (rename_i hbad; exact (hbad rfl).elim) | (refine Is.ent ?_ ?_; (focus (refine FEnt.ent ?_; (repeat (first | exact FEnt.rfl | (refine FEnt.at 1 rfl ?_; (try simp only [List.eraseIdx_cons_zero, List.eraseIdx_cons_succ, List.eraseIdx_zero, List.tail_cons])) | refine FEnt.drop ?_)); done)); (exact Is.bool (by simp)))
        · refine con_of Try.tysOk Try.func26 rfl rfl ?_
          conv => whnf
          repeat' (first
            | (first | ((with_reducible refine Br.tt ?_); conv => whnf) | ((with_reducible refine Br.ff ?_); conv => whnf) | ((with_reducible refine Br.nt ?_); conv => whnf) | ((with_reducible refine Br.nf ?_); conv => whnf) | ((with_reducible refine Br.dt ?_ ?_); (focus (first | assumption | omega)); conv => whnf) | ((with_reducible refine Br.df ?_ ?_); (focus (first | assumption | omega)); conv => whnf) | ((with_reducible refine Br.ndf ?_ ?_); (focus (first | assumption | omega)); conv => whnf) | ((with_reducible refine Br.nef ?_ ?_); (focus (first | rfl | assumption)); conv => whnf) | ((with_reducible refine Br.eqf ?_ ?_); (focus (first | decide | assumption)); conv => whnf))
            | ((with_reducible refine Nd.mk ?_ ?_); (focus (first | omega | rfl | assumption | (simp; done))); conv => whnf)
            | ((with_reducible refine Nc.go' (fun b => ?_)); conv => whnf)
            | ((with_reducible refine Ix.ad ?_ ?_ ?_); (focus (exact Rd.ad (by assumption))); (focus (omega)); conv => whnf)
            | (first | ((apply Ld.rd0); (focus ((repeat (first | assumption | apply Rd.cons)); done)); (focus rfl); (focus (omega)); (focus rfl); conv => whnf) | (refine Ld.at 0 rfl rfl ?_; conv => whnf))
            | ((with_reducible refine Dr.by (id := 4) Try.tysOk rfl [(0, 0), (1, 0), (4, 0), (5, 0), (2, 1), (3, 1), (6, 1), (7, 1), (8, 0), (9, 0)] ?_ ?_); (focus kernel_rfl); conv => whnf)
            | ((with_reducible refine Dr.by (id := 7) Try.tysOk rfl [(0, 0), (1, 0), (2, 0), (3, 0), (4, 0), (5, 0), (6, 0), (7, 0), (8, 0), (9, 0), (10, 0), (11, 0), (12, 0), (13, 0), (14, 0), (15, 0), (19, 0), (20, 0), (16, 1), (17, 0), (18, 1), (21, 1), (22, 0), (23, 0), (24, 1), (25, 1), (26, 0), (27, 0), (28, 0), (29, 0), (30, 0), (31, 0), (32, 0), (33, 0), (34, 0), (35, 0), (36, 0)] ?_ ?_); (focus kernel_rfl); conv => whnf)
            | (first | ((with_reducible refine CD.is (fun M => Try.refThereT _ _ _ p 1 _ (by omega) ⟨by omega, by omega⟩ (by omega) ⟨by omega, by omega⟩) ?_); conv => whnf) | ((with_reducible refine CD.is (fun M => Try.refThereF _ _ _ p 2 _ (by omega) hp ⟨by omega, by omega⟩ (by omega) (mt (fun h => ⟨by omega, by omega⟩) h2)) ?_); conv => whnf))
            | (first | ((refine Cl.isAt 1 rfl (Try.memGet _ _ p.toNat p _ (by omega) (by omega) (by omega)) ?_); conv => whnf) | ((refine Cl.isAt 1 rfl (Try.memGet2No _ _ _ _ (by omega) hp h2) ?_); conv => whnf) | ((refine Cl.isAt 1 rfl (Try.memTextNo _ _ _ _ _ (by omega) hp hn (by omega) h4) ?_); conv => whnf) | ((with_reducible refine Cl.is (Try.refThereF _ _ _ p n _ (by omega) hp hn (by omega) (mt (fun h => ⟨by omega, by omega⟩) h4)) ?_); conv => whnf)))
          all_goals first | (rename_i hbad; exact (hbad rfl).elim) | (refine Is.ent ?_ ?_; (focus (refine FEnt.ent ?_; (repeat (first | exact FEnt.rfl | (refine FEnt.at 1 rfl ?_; (try simp only [List.eraseIdx_cons_zero, List.eraseIdx_cons_succ, List.eraseIdx_zero, List.tail_cons])) | refine FEnt.drop ?_)); done)); (exact Is.rfl))
  · have h2 : ¬ thr xs.length p 2 := fun h => h1 ⟨by omega, by omega⟩
    by_cases h3 : n < 0
    · refine con_of Try.tysOk Try.func26 rfl rfl ?_
      conv => whnf
      repeat' (first
        | (first | ((with_reducible refine Br.tt ?_); conv => whnf) | ((with_reducible refine Br.ff ?_); conv => whnf) | ((with_reducible refine Br.nf ?_); conv => whnf) | ((with_reducible refine Br.dt ?_ ?_); (focus (first | assumption | omega)); conv => whnf) | ((with_reducible refine Br.ndf ?_ ?_); (focus (first | assumption | omega)); conv => whnf) | ((with_reducible refine Br.nef ?_ ?_); (focus (first | rfl | assumption)); conv => whnf) | ((with_reducible refine Br.eqf ?_ ?_); (focus (first | decide | assumption)); conv => whnf))
        | ((with_reducible refine Nd.mk ?_ ?_); (focus (first | omega | rfl | assumption | (simp; done))); conv => whnf)
        | ((with_reducible refine Nc.go' (fun b => ?_)); conv => whnf)
        | (refine Ld.at 0 rfl rfl ?_; conv => whnf)
        | ((with_reducible refine Dr.by (id := 4) Try.tysOk rfl [(0, 0), (1, 0), (4, 0), (5, 0), (2, 1), (3, 1), (6, 1), (7, 1), (8, 0), (9, 0)] ?_ ?_); (focus kernel_rfl); conv => whnf)
        | ((with_reducible refine Dr.by (id := 7) Try.tysOk rfl [(0, 0), (1, 0), (2, 0), (3, 0), (4, 0), (5, 0), (6, 0), (7, 0), (8, 0), (9, 0), (10, 0), (11, 0), (12, 0), (13, 0), (14, 0), (15, 0), (19, 0), (20, 0), (16, 1), (17, 0), (18, 1), (21, 1), (22, 0), (23, 0), (24, 1), (25, 1), (26, 0), (27, 0), (28, 0), (29, 0), (30, 0), (31, 0), (32, 0), (33, 0), (34, 0), (35, 0), (36, 0)] ?_ ?_); (focus kernel_rfl); conv => whnf)
        | ((with_reducible refine CD.is (fun M => Try.refThereF _ _ _ _ _ _ (by omega) hp ⟨by omega, by omega⟩ (by omega) (mt (fun h => ⟨by omega, by omega⟩) h1)) ?_); conv => whnf)
        | (first | ((refine Cl.isAt 1 rfl (Try.memGetNo _ _ _ _ (by omega) hp h1) ?_); conv => whnf) | ((refine Cl.isAt 1 rfl (Try.memGet2No _ _ _ _ (by omega) hp h2) ?_); conv => whnf) | ((refine Cl.isAt 1 rfl (Try.memTextArg _ _ _ _ _ (by omega) hp hn h3) ?_); conv => whnf)))
      all_goals first | (rename_i hbad; exact (hbad rfl).elim) | (refine Is.ent ?_ ?_; (focus (refine FEnt.ent ?_; (repeat (first | exact FEnt.rfl | (refine FEnt.at 1 rfl ?_; (try simp only [List.eraseIdx_cons_zero, List.eraseIdx_cons_succ, List.eraseIdx_zero, List.tail_cons])) | refine FEnt.drop ?_)); done)); (exact Is.rfl))
    · by_cases h4 : thr xs.length p n
      · refine con_of Try.tysOk Try.func26 rfl rfl ?_
        conv => whnf
        repeat' (first
          | (first | ((with_reducible refine Br.tt ?_); conv => whnf) | ((with_reducible refine Br.ff ?_); conv => whnf) | ((with_reducible refine Br.nt ?_); conv => whnf) | ((with_reducible refine Br.nf ?_); conv => whnf) | ((with_reducible refine Br.dt ?_ ?_); (focus (first | assumption | omega)); conv => whnf) | ((with_reducible refine Br.df ?_ ?_); (focus (first | assumption | omega)); conv => whnf) | ((with_reducible refine Br.ndf ?_ ?_); (focus (first | assumption | omega)); conv => whnf) | ((with_reducible refine Br.nef ?_ ?_); (focus (first | rfl | assumption)); conv => whnf) | ((with_reducible refine Br.eqf ?_ ?_); (focus (first | decide | assumption)); conv => whnf))
          | ((with_reducible refine Nd.mk ?_ ?_); (focus (first | omega | rfl | assumption | (simp; done))); conv => whnf)
          | ((with_reducible refine Nc.go' (fun b => ?_)); conv => whnf)
          | (refine Ld.at 0 rfl rfl ?_; conv => whnf)
          | ((with_reducible refine Dr.by (id := 4) Try.tysOk rfl [(0, 0), (1, 0), (4, 0), (5, 0), (2, 1), (3, 1), (6, 1), (7, 1), (8, 0), (9, 0)] ?_ ?_); (focus kernel_rfl); conv => whnf)
          | ((with_reducible refine Dr.by (id := 7) Try.tysOk rfl [(0, 0), (1, 0), (2, 0), (3, 0), (4, 0), (5, 0), (6, 0), (7, 0), (8, 0), (9, 0), (10, 0), (11, 0), (12, 0), (13, 0), (14, 0), (15, 0), (19, 0), (20, 0), (16, 1), (17, 0), (18, 1), (21, 1), (22, 0), (23, 0), (24, 1), (25, 1), (26, 0), (27, 0), (28, 0), (29, 0), (30, 0), (31, 0), (32, 0), (33, 0), (34, 0), (35, 0), (36, 0)] ?_ ?_); (focus kernel_rfl); conv => whnf)
          | (first | ((with_reducible refine CD.is (fun M => Try.refThereF _ _ _ p 1 _ (by omega) hp ⟨by omega, by omega⟩ (by omega) (mt (fun h => ⟨by omega, by omega⟩) h1)) ?_); conv => whnf) | ((with_reducible refine CD.is (fun M => Try.refThereF _ _ _ p 2 _ (by omega) hp ⟨by omega, by omega⟩ (by omega) (mt (fun h => ⟨by omega, by omega⟩) h2)) ?_); conv => whnf))
          | (first | ((refine Cl.isAt 1 rfl (Try.memGetNo _ _ _ _ (by omega) hp h1) ?_); conv => whnf) | ((refine Cl.isAt 1 rfl (Try.memGet2No _ _ _ _ (by omega) hp h2) ?_); conv => whnf) | ((refine Cl.isAt 1 rfl (Try.memText _ _ p.toNat n.toNat _ _ _ (by omega) (by omega) (by omega) (by omega)) ?_); conv => whnf) | ((with_reducible refine Cl.is (Try.refThereT _ _ _ _ _ _ (by omega) ⟨by omega, by omega⟩ (by omega) ⟨by omega, by omega⟩) ?_); conv => whnf) | ((with_reducible refine Cl.is (Try.refTextB _ _ p.toNat n.toNat _ _ xs _ (by omega) (by omega) (by omega) (by omega) (by ((repeat (first | assumption | apply Rd.cons)); done))) ?_); conv => whnf)))
        all_goals first | (rename_i hbad; exact (hbad rfl).elim) | (refine Is.ent ?_ ?_; (focus (refine FEnt.ent ?_; (repeat (first | exact FEnt.rfl | (refine FEnt.at 1 rfl ?_; (try simp only [List.eraseIdx_cons_zero, List.eraseIdx_cons_succ, List.eraseIdx_zero, List.tail_cons])) | refine FEnt.drop ?_)); done)); (exact Is.bool (by simp)))
      · refine con_of Try.tysOk Try.func26 rfl rfl ?_
        conv => whnf
        repeat' (first
          | (first | ((with_reducible refine Br.tt ?_); conv => whnf) | ((with_reducible refine Br.ff ?_); conv => whnf) | ((with_reducible refine Br.nf ?_); conv => whnf) | ((with_reducible refine Br.dt ?_ ?_); (focus (first | assumption | omega)); conv => whnf) | ((with_reducible refine Br.df ?_ ?_); (focus (first | assumption | omega)); conv => whnf) | ((with_reducible refine Br.ndf ?_ ?_); (focus (first | assumption | omega)); conv => whnf) | ((with_reducible refine Br.nef ?_ ?_); (focus (first | rfl | assumption)); conv => whnf) | ((with_reducible refine Br.eqf ?_ ?_); (focus (first | decide | assumption)); conv => whnf))
          | ((with_reducible refine Nd.mk ?_ ?_); (focus (first | omega | rfl | assumption | (simp; done))); conv => whnf)
          | ((with_reducible refine Nc.go' (fun b => ?_)); conv => whnf)
          | (refine Ld.at 0 rfl rfl ?_; conv => whnf)
          | ((with_reducible refine Dr.by (id := 4) Try.tysOk rfl [(0, 0), (1, 0), (4, 0), (5, 0), (2, 1), (3, 1), (6, 1), (7, 1), (8, 0), (9, 0)] ?_ ?_); (focus kernel_rfl); conv => whnf)
          | ((with_reducible refine Dr.by (id := 7) Try.tysOk rfl [(0, 0), (1, 0), (2, 0), (3, 0), (4, 0), (5, 0), (6, 0), (7, 0), (8, 0), (9, 0), (10, 0), (11, 0), (12, 0), (13, 0), (14, 0), (15, 0), (19, 0), (20, 0), (16, 1), (17, 0), (18, 1), (21, 1), (22, 0), (23, 0), (24, 1), (25, 1), (26, 0), (27, 0), (28, 0), (29, 0), (30, 0), (31, 0), (32, 0), (33, 0), (34, 0), (35, 0), (36, 0)] ?_ ?_); (focus kernel_rfl); conv => whnf)
          | (first | ((with_reducible refine CD.is (fun M => Try.refThereF _ _ _ p 1 _ (by omega) hp ⟨by omega, by omega⟩ (by omega) (mt (fun h => ⟨by omega, by omega⟩) h1)) ?_); conv => whnf) | ((with_reducible refine CD.is (fun M => Try.refThereF _ _ _ p 2 _ (by omega) hp ⟨by omega, by omega⟩ (by omega) (mt (fun h => ⟨by omega, by omega⟩) h2)) ?_); conv => whnf))
          | (first | ((refine Cl.isAt 1 rfl (Try.memGetNo _ _ _ _ (by omega) hp h1) ?_); conv => whnf) | ((refine Cl.isAt 1 rfl (Try.memGet2No _ _ _ _ (by omega) hp h2) ?_); conv => whnf) | ((refine Cl.isAt 1 rfl (Try.memTextNo _ _ _ _ _ (by omega) hp hn (by omega) h4) ?_); conv => whnf) | ((with_reducible refine Cl.is (Try.refThereF _ _ _ p n _ (by omega) hp hn (by omega) (mt (fun h => ⟨by omega, by omega⟩) h4)) ?_); conv => whnf)))
        all_goals first | (rename_i hbad; exact (hbad rfl).elim) | (refine Is.ent ?_ ?_; (focus (refine FEnt.ent ?_; (repeat (first | exact FEnt.rfl | (refine FEnt.at 1 rfl ?_; (try simp only [List.eraseIdx_cons_zero, List.eraseIdx_cons_succ, List.eraseIdx_zero, List.tail_cons])) | refine FEnt.drop ?_)); done)); (exact Is.rfl))
/-- the bytes behind deeds -/
def dstep (xs : List UInt8) (d : Deed) : List UInt8 := if 0 ≤ d.1 ∧ d.1 < 3 then wroteF xs d else xs
def playF (xs : List UInt8) (ds : List Deed) : List UInt8 := ds.foldl dstep xs
theorem dstep_len (xs : List UInt8) (d : Deed) : (dstep xs d).length = xs.length := by
  unfold dstep
  split
  · exact wroteF_len xs d
  · rfl
theorem playF_len : ∀ (ds : List Deed) (xs : List UInt8), (playF xs ds).length = xs.length
  | [], xs => rfl
  | d :: ds, xs => (playF_len ds (dstep xs d)).trans (dstep_len xs d)
theorem playF_take {xs : List UInt8} {ds : List Deed} {k : Nat} (h : k < ds.length) : playF xs (ds.take (k + 1)) = dstep (playF xs (ds.take k)) (ds.getD k deedE.d) := by
  rw [take_snoc' deedE.d h]; simp [playF]
/-- a new memory's bytes -/
abbrev newB (size : Int) : List UInt8 := zeros (min (max size 0) 16384).toNat
theorem newB_len {size : Int} (h : size ≤ 400) : (newB size).length ≤ 400 := by rw [List.length_replicate]; omega
theorem Try.played (size : Int) (a0 : Option Addr) (c0 : Nat) (ds : List Deed) (L : List HP) (hz : I64 size) (hs : size ≤ 400) (hd : ∀ d ∈ ds, deedI d) (ht : ∀ d ∈ ds, d.2.2.2.size ≤ 300) (hl : ds.length ≤ 9223372036854775807) (hr : Rd deedE L a0 ds) :
    Con Try.prog 9 [i64V size, .slice a0 ds.length c0] L
      (Exs (fun x : Nat × HP × Option Addr × Nat => .tuple #[pV x.1, .slice x.2.2.1 (ints (playF (newB size) (ds.take 40))).length x.2.2.2, .bool true]) (fun x => Try.memH x.1 (playF (newB size) (ds.take 40)) :: x.2.1 :: L)
        (fun x => Rd intE [x.2.1] x.2.2.1 (ints (playF (newB size) (ds.take 40))) ∧ (ints (playF (newB size) (ds.take 40))).length ≤ x.2.2.2)) := by
  have hnb := newB_len hs
  refine con_of Try.tysOk Try.func9 rfl rfl ?_
  conv => whnf
  repeat' (first | ((with_reducible refine Cl.exs (Try.memNew _ _ hz) (fun b _ => ?_)); conv => whnf) | ((with_reducible refine Cl.new (Try.refNew _ _ hz) (fun _ _ _ _ => ?_)); conv => whnf))
  rename_i a1 c1 hc1 had1
  conv => whnf
  refine Lp.by3 Try.tysOk [9, 8] (fun (k : Nat) (X : List UInt8) (x : HP × Option Addr × Nat) => [.int .i64 k, .slice x.2.1 (ints X).length x.2.2]) (fun k X x => Try.memH b X :: x.1 :: L) (fun k X x => k ≤ ds.length ∧ k ≤ 40 ∧ X = playF (newB size) (ds.take k) ∧ Rd intE [x.1] x.2.1 (ints X) ∧ (ints X).length ≤ x.2.2) (fun k X x => 40 - k) (0) (newB size) ((own intE 3 a1 c1 (ints (newB size)), a1, c1)) (by kernel_rfl) (by (refine FEnt.ent ?_; (repeat (first | exact FEnt.rfl | (refine FEnt.at 1 rfl ?_; (try simp only [List.eraseIdx_cons_zero, List.eraseIdx_cons_succ, List.eraseIdx_zero, List.tail_cons])))); done)) (⟨by omega, by omega, rfl, Rd.own 0 rfl had1, hc1⟩) ?_
  rintro k X ⟨A, a, c⟩ ⟨h1, h2, h3, h4, h5⟩
  conv => whnf
  repeat (intro _; conv => whnf)
  have hX : X.length ≤ 400 := by rw [h3, playF_len]; exact hnb
  have hiX := ints_len X
  by_cases hk : k < ds.length ∧ k < 40
  · have hst := playF_take (xs := newB size) hk.1
    rw [← h3] at hst
    have hdk := hd _ (getD_mem (d := deedE.d) hk.1)
    have htk := ht _ (getD_mem (d := deedE.d) hk.1)
    by_cases hw : 0 ≤ (ds.getD k deedE.d).1 ∧ (ds.getD k deedE.d).1 < 3
    · have e : dstep X (ds.getD k deedE.d) = wroteF X (ds.getD k deedE.d) := if_pos hw
      rw [e] at hst
      have hwl := wroteF_len X (ds.getD k deedE.d)
      have hiw := ints_len (wroteF X (ds.getD k deedE.d))
      conv => whnf
      repeat' (first
        | (first | ((with_reducible refine Br.tt ?_); conv => whnf) | ((with_reducible refine Br.ff ?_); conv => whnf) | ((with_reducible refine Br.nt ?_); conv => whnf) | ((with_reducible refine Br.dt ?_ ?_); (focus (first | assumption | omega)); conv => whnf) | ((with_reducible refine Br.ndf ?_ ?_); (focus (first | assumption | omega)); conv => whnf))
        | ((with_reducible refine Ar.i64 ?_ ?_); (focus omega); conv => whnf)
        | ((with_reducible refine Nd.mk ?_ ?_); (focus (first | omega | rfl | assumption | (simp; done))); conv => whnf)
        | ((with_reducible refine Ix.ad ?_ ?_ ?_); (focus (exact Rd.ad (by assumption))); (focus (omega)); conv => whnf)
        | ((with_reducible apply Ld.rdk0); (focus ((repeat (first | assumption | apply Rd.cons)); done)); (focus rfl); (focus (omega)); (focus rfl); conv => whnf)
        | ((with_reducible apply LdN.rdk); (focus ((repeat (first | assumption | apply Rd.cons)); done)); (focus rfl); (focus rfl); (focus (omega)); conv => whnf)
        | ((refine Cl.isAt 0 rfl (Try.memSize _ _ _) ?_); conv => whnf)
        | ((refine Cl.exs (Try.wrote b X A a c (ds.getD k deedE.d) L (by omega) hdk htk h5 h4) ?_; rintro ⟨A2, a2, c2⟩ hb); conv => whnf))
      refine ⟨k + 1, wroteF X (ds.getD k deedE.d), (A2, a2, c2), by kernel_rfl, by (exact Ent.rfl), ⟨by omega, by omega, hst.symm, hb.read, hb.cap⟩, by omega⟩
    · have e : dstep X (ds.getD k deedE.d) = X := if_neg hw
      rw [e] at hst
      conv => whnf
      repeat' (first
        | (first | ((with_reducible refine Br.tt ?_); conv => whnf) | ((with_reducible refine Br.ff ?_); conv => whnf) | ((with_reducible refine Br.nt ?_); conv => whnf) | ((with_reducible refine Br.dt ?_ ?_); (focus (first | assumption | omega)); conv => whnf) | ((with_reducible refine Br.df ?_ ?_); (focus (first | assumption | omega)); conv => whnf) | ((with_reducible refine Br.ndf ?_ ?_); (focus (first | assumption | omega)); conv => whnf))
        | ((with_reducible refine Ar.i64 ?_ ?_); (focus omega); conv => whnf)
        | ((with_reducible refine Ix.ad ?_ ?_ ?_); (focus (exact Rd.ad (by assumption))); (focus (omega)); conv => whnf)
        | ((with_reducible apply Ld.rdk0); (focus ((repeat (first | assumption | apply Rd.cons)); done)); (focus rfl); (focus (omega)); (focus rfl); conv => whnf)
        | ((with_reducible apply LdN.rdk); (focus ((repeat (first | assumption | apply Rd.cons)); done)); (focus rfl); (focus rfl); (focus (omega)); conv => whnf)
        | (first | ((with_reducible refine Cl.is (Try.told b X a c (ds.getD k deedE.d) (A :: L) (by omega) hdk (Rd.hd h4)) ?_); conv => whnf) | ((refine Cl.isAt 0 rfl (Try.memSize _ _ _) ?_); conv => whnf))
        | ((with_reducible refine Br.ds (fun _ => ?_) (fun _ => ?_) ) <;> (conv => whnf)))
      all_goals exact ⟨k + 1, X, (A, a, c), by kernel_rfl, by (exact Ent.rfl), ⟨by omega, by omega, hst.symm, h4, h5⟩, by omega⟩
  · have e : ds.take 40 = ds.take k := by
      by_cases g : k = 40
      · rw [g]
      · rw [List.take_of_length_le (by omega), List.take_of_length_le (by omega)]
    conv => whnf
    repeat' (first
      | (first | ((with_reducible refine Br.tt ?_); conv => whnf) | ((with_reducible refine Br.ff ?_); conv => whnf) | ((with_reducible refine Br.df ?_ ?_); (focus (first | assumption | omega)); conv => whnf))
      | ((with_reducible refine Br.ds (fun _ => ?_) (fun _ => ?_) ) <;> (conv => whnf)))
    all_goals (rw [e, ← h3]; exact Exs.of (b, A, a, c) (by dsimp only; (exact Ent.rfl)) ⟨h4, h5⟩ rfl)
theorem Try.memPlaysLaw (size : Int) (a0 : Option Addr) (c0 : Nat) (ds : List Deed) (L : List HP) (hz : I64 size) (hd : ∀ d ∈ ds, deedI d) (hc : ds.length ≤ c0) (hm : c0 ≤ 9223372036854775807) (hr : Rd deedE L a0 ds) :
    Con Try.prog 3 [i64V size, .slice a0 ds.length c0] L (Is (.bool true) L) := by
  by_cases hf : size ≤ 400 ∧ ∀ d ∈ ds, d.2.2.2.size ≤ 300
  · have hX : (playF (newB size) (ds.take 40)).length ≤ 400 := by rw [playF_len]; exact newB_len hf.1
    have hi := ints_len (playF (newB size) (ds.take 40))
    refine con_of Try.tysOk Try.func3 rfl rfl ?_
    conv => whnf
    repeat' (first
      | (first | ((with_reducible refine Br.tt ?_); conv => whnf) | ((with_reducible refine Br.nt ?_); conv => whnf) | ((with_reducible refine Br.dt ?_ ?_); (focus (first | assumption | omega)); conv => whnf))
      | ((with_reducible refine Nd.mk ?_ ?_); (focus (first | omega | rfl | assumption | (simp; done))); conv => whnf)
      | (first | ((with_reducible refine Cl.is (Con.dt hf (Try.few _ _ _ _ _ hc hm hr)) ?_); conv => whnf) | ((with_reducible refine Cl.is (Try.memLive _) ?_); conv => whnf) | ((refine Cl.isAt 0 rfl (Try.memSize _ _ _) ?_); conv => whnf) | ((refine Cl.isAt 0 rfl (Try.memText _ _ 0 (playF (newB size) (ds.take 40)).length _ _ _ (by omega) rfl rfl (by omega)) ?_); conv => whnf) | ((with_reducible refine Cl.is (Try.refTextB _ _ 0 (playF (newB size) (ds.take 40)).length _ _ (playF (newB size) (ds.take 40)) _ (by omega) rfl (by omega) (by omega) (by ((repeat (first | exact Rd.hd (by assumption) | apply Rd.cons)); done))) ?_); conv => whnf))
      | ((refine Cl.exs (Try.played size a0 c0 ds _ hz hf.1 hd hf.2 (by omega) (by ((repeat (assumption)); done))) ?_; rintro ⟨b, A, a, c⟩ ⟨g1, g2⟩); conv => whnf))
    all_goals (refine Is.ent ?_ ?_; (focus (refine FEnt.ent ?_; (repeat (first | exact FEnt.rfl | refine FEnt.drop ?_)); done)); (exact Is.bool (by simp)))
  · refine con_of Try.tysOk Try.func3 rfl rfl ?_
    conv => whnf
    repeat' (first
      | ((with_reducible refine Br.nf ?_); conv => whnf)
      | (first | ((with_reducible refine Cl.is (Con.df hf (Try.few _ _ _ _ _ hc hm hr)) ?_); conv => whnf) | ((with_reducible refine Cl.is (Try.memLive _) ?_); conv => whnf)))
    all_goals (refine Is.ent ?_ ?_; (focus (exact Ent.rfl)); (exact Is.rfl))
end Go.Proofs
