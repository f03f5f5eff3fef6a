/- The processor: the document's step: contracts. -/
import Derived.Test.YtmkfnpccaipjcaaCpuD
import Derived.Test.YtmkfnpccaipjcaaMemLaw
set_option linter.all false
namespace Go.Proofs
open Go.Eng
set_option linter.unusedVariables false
set_option maxRecDepth 100000
set_option maxHeartbeats 4000000
theorem bAt_lt (V : List UInt8) (k : Nat) : 0 ≤ bAt V k ∧ bAt V k ≤ 255 := ⟨Int.natCast_nonneg _, u8_lt _⟩
theorem Try.refBreaks (pc m e : Int) (r : Nat → Int) (L : List HP) : Con Try.prog 53 [stV pc r m, i64W e] L (Is (.tuple #[stV pc r 3, outV (5, 0, 0, e)]) L) := by
  refine con_of Try.tysOk Try.func53 rfl rfl ?_
  conv => whnf
  repeat' (first
    | ((with_reducible refine Nd.mk ?_ ?_); (focus (first | omega | rfl | assumption | (simp; done))); conv => whnf)
    | ((with_reducible refine Nc.go' (fun b => ?_)); conv => whnf)
    | (first | (refine LdN.at 0 rfl (by first | exact Nat.le_of_ble_eq_true rfl | (simp; done)) ?_; conv => whnf) | (refine LdN.at 1 rfl (by first | exact Nat.le_of_ble_eq_true rfl | (simp; done)) ?_; conv => whnf) | (refine LdN.at 2 rfl (by first | exact Nat.le_of_ble_eq_true rfl | (simp; done)) ?_; conv => whnf))
    | (first | (refine St.at 0 rfl (by first | exact Nat.le_of_ble_eq_true rfl | (simp; done)) rfl ?_; conv => whnf) | (refine St.at 1 rfl (by first | exact Nat.le_of_ble_eq_true rfl | (simp; done)) rfl ?_; conv => whnf) | (refine St.at 2 rfl (by first | exact Nat.le_of_ble_eq_true rfl | (simp; done)) rfl ?_; conv => whnf)))
  all_goals (refine Is.ent ?_ ?_; (focus (refine FEnt.ent ?_; (repeat (first | exact FEnt.rfl | refine FEnt.drop ?_)); done)); (exact Is.rfl))
theorem Try.refMade (c x y : Int) (L : List HP) (hx : 0 ≤ x ∧ x ≤ 65535) (hy : 0 ≤ y ∧ y ≤ 65535) (hc : c = 3 ∨ c = 4 ∨ c = 5 ∨ c = 6) : Con Try.prog 55 [u8W c, i64W x, i64W y] L (Is (i64W (madeF c x y)) L) := by
  rcases hc with rfl | rfl | rfl | rfl
  all_goals
    refine con_of Try.tysOk Try.func55 rfl rfl ?_
    conv => whnf
    repeat' (first
      | (first | ((with_reducible refine Br.dt ?_ ?_); (focus (first | assumption | omega)); conv => whnf) | ((with_reducible refine Br.df ?_ ?_); (focus (first | assumption | omega)); conv => whnf))
      | ((with_reducible refine Bt.raw ?_); conv => whnf)
      | ((with_reducible refine Ar.i64 ?_ ?_); (focus omega); conv => whnf)
      | ((with_reducible refine Cl.is (Try.refWord _ _ ⟨by omega, by omega⟩) ?_); conv => whnf))
    all_goals (refine Is.ent ?_ ?_; (focus (exact Ent.rfl)); (exact Is.rfl))
theorem Try.refAcc7 (a : Option Addr) (cp : Nat) (V : List UInt8) (pc m x n : Int) (r : Nat → Int) (L : List HP) (hV : V.length ≤ 16384) (hrd : Rd intE L a (ints V)) (hx : 0 ≤ x ∧ x < 8) (hn : 0 ≤ n ∧ n < 8) (hr : regOk r)
    (ht : 0 ≤ r n.toNat ∧ r n.toNat + 1 ≤ V.length) :
    Con Try.prog 56 [.slice a (ints V).length cp, stV pc r m, insV 7 x n] L (Is (.tuple #[.slice a (ints V).length cp, stV pc (upd r x.toNat (bAt V (r n.toNat).toNat)) m, .bool true]) L) := by
  have hl := ints_len V
  have e1 : (ints V).getD (r n.toNat).toNat intE.d = bAt V (r n.toNat).toNat := ints_getD V _
  have hrn := hr n.toNat
  refine con_of Try.tysOk Try.func56 rfl rfl ?_
  conv => whnf
  repeat' (first
    | (first | ((with_reducible refine Br.ff ?_); conv => whnf) | ((with_reducible refine Br.nt ?_); conv => whnf) | ((with_reducible refine Br.dt ?_ ?_); (focus (first | assumption | omega)); conv => whnf) | ((with_reducible refine Br.df ?_ ?_); (focus (first | assumption | omega)); conv => whnf))
    | ((with_reducible refine Nd.mk ?_ ?_); (focus (first | omega | rfl | assumption | (simp; done))); conv => whnf)
    | ((with_reducible refine Nc.go' (fun b => ?_)); conv => whnf)
    | ((with_reducible refine Ix.arr ?_ ?_); (focus (omega)); conv => whnf)
    | ((with_reducible refine Ix.ad ?_ ?_ ?_); (focus (exact Rd.ad (by assumption))); (focus (omega)); conv => whnf)
    | (first | ((apply Ld.rd0); (focus ((repeat (first | assumption | apply Rd.cons)); done)); (focus rfl); (focus (omega)); (focus rfl); conv => whnf) | (refine Ld.reg 2 rfl ?_ ?_; (focus (omega)); conv => whnf) | (refine Ld.at 1 rfl rfl ?_; conv => whnf))
    | (first | (refine LdN.at 0 rfl (by first | exact Nat.le_of_ble_eq_true rfl | (simp; done)) ?_; conv => whnf) | (refine LdN.at 2 rfl (by first | exact Nat.le_of_ble_eq_true rfl | (simp; done)) ?_; conv => whnf))
    | (first | (refine St.reg 2 rfl ?_ ?_; (focus (omega)); conv => whnf) | (refine St.at 0 rfl (by first | exact Nat.le_of_ble_eq_true rfl | (simp; done)) rfl ?_; conv => whnf))
    | ((with_reducible refine Dr.by (id := 11) Try.tysOk rfl [(0, 0), (2, 0), (3, 0), (4, 0), (6, 0), (1, 1), (5, 1), (7, 0), (8, 3)] ?_ ?_); (focus kernel_rfl); conv => whnf)
    | ((with_reducible refine Dr.by (id := 16) Try.tysOk rfl [(0, 0), (2, 0), (1, 1), (3, 3), (4, 0)] ?_ ?_); (focus kernel_rfl); conv => whnf)
    | ((with_reducible refine Cl.is (Try.refThereT _ _ _ _ _ _ (by omega) ⟨by omega, by omega⟩ (by omega) ⟨by omega, by omega⟩) ?_); conv => whnf)
    | ((rw [e1]); conv => whnf))
  all_goals (refine Is.ent ?_ ?_; (focus (refine FEnt.ent ?_; (repeat (first | exact FEnt.rfl | refine FEnt.drop ?_)); done)); (exact Is.rfl))
theorem Try.refAcc9 (a : Option Addr) (cp : Nat) (V : List UInt8) (pc m x n : Int) (r : Nat → Int) (L : List HP) (hV : V.length ≤ 16384) (hrd : Rd intE L a (ints V)) (hx : 0 ≤ x ∧ x < 8) (hn : 0 ≤ n ∧ n < 8) (hr : regOk r)
    (ht : 0 ≤ r n.toNat ∧ r n.toNat + 2 ≤ V.length) :
    Con Try.prog 56 [.slice a (ints V).length cp, stV pc r m, insV 9 x n] L (Is (.tuple #[.slice a (ints V).length cp, stV pc (upd r x.toNat (bAt V (r n.toNat).toNat + 256 * bAt V ((r n.toNat).toNat + 1))) m, .bool true]) L) := by
  have hl := ints_len V
  have e1 : (ints V).getD (r n.toNat).toNat intE.d = bAt V (r n.toNat).toNat := ints_getD V _
  have hrn := hr n.toNat
  have e2 : (ints V).getD (r n.toNat + 1).toNat intE.d = bAt V ((r n.toNat).toNat + 1) := by rw [show (r n.toNat + 1).toNat = (r n.toNat).toNat + 1 from by omega]; exact ints_getD V _
  have h1 := bAt_lt V (r n.toNat).toNat
  have h2 := bAt_lt V ((r n.toNat).toNat + 1)
  refine con_of Try.tysOk Try.func56 rfl rfl ?_
  conv => whnf
  repeat' (first
    | (first | ((with_reducible refine Br.tt ?_); conv => whnf) | ((with_reducible refine Br.nt ?_); conv => whnf) | ((with_reducible refine Br.dt ?_ ?_); (focus (first | assumption | omega)); conv => whnf) | ((with_reducible refine Br.df ?_ ?_); (focus (first | assumption | omega)); conv => whnf))
    | ((with_reducible refine Ar.i64 ?_ ?_); (focus omega); conv => whnf)
    | ((with_reducible refine Nd.mk ?_ ?_); (focus (first | omega | rfl | assumption | (simp; done))); conv => whnf)
    | ((with_reducible refine Nc.go' (fun b => ?_)); conv => whnf)
    | ((with_reducible refine Ix.arr ?_ ?_); (focus (omega)); conv => whnf)
    | ((with_reducible refine Ix.ad ?_ ?_ ?_); (focus (exact Rd.ad (by assumption))); (focus (omega)); conv => whnf)
    | (first | ((apply Ld.rd0); (focus ((repeat (first | assumption | apply Rd.cons)); done)); (focus rfl); (focus (omega)); (focus rfl); conv => whnf) | (refine Ld.reg 2 rfl ?_ ?_; (focus (omega)); conv => whnf) | (refine Ld.at 1 rfl rfl ?_; conv => whnf))
    | (first | (refine LdN.at 0 rfl (by first | exact Nat.le_of_ble_eq_true rfl | (simp; done)) ?_; conv => whnf) | (refine LdN.at 2 rfl (by first | exact Nat.le_of_ble_eq_true rfl | (simp; done)) ?_; conv => whnf))
    | (first | (refine St.reg 2 rfl ?_ ?_; (focus (omega)); conv => whnf) | (refine St.at 0 rfl (by first | exact Nat.le_of_ble_eq_true rfl | (simp; done)) rfl ?_; conv => whnf))
    | ((with_reducible refine Dr.by (id := 13) Try.tysOk rfl [(0, 0), (2, 0), (3, 0), (4, 0), (6, 0), (7, 0), (8, 0), (9, 0), (13, 0), (1, 1), (5, 1), (10, 1), (11, 0), (12, 0), (14, 0), (15, 3)] ?_ ?_); (focus kernel_rfl); conv => whnf)
    | ((with_reducible refine Dr.by (id := 16) Try.tysOk rfl [(0, 0), (2, 0), (1, 1), (3, 3), (4, 0)] ?_ ?_); (focus kernel_rfl); conv => whnf)
    | ((with_reducible refine Cl.is (Try.refThereT _ _ _ _ _ _ (by omega) ⟨by omega, by omega⟩ (by omega) ⟨by omega, by omega⟩) ?_); conv => whnf)
    | ((rw [e1]); conv => whnf)
    | ((rw [e2]); conv => whnf))
  all_goals (refine Is.ent ?_ ?_; (focus (refine FEnt.ent ?_; (repeat (first | exact FEnt.rfl | refine FEnt.drop ?_)); done)); (exact Is.rfl))
theorem Try.refAccW (a : Option Addr) (cp : Nat) (V : List UInt8) (pc m c x n : Int) (r : Nat → Int) (L : List HP) (hV : V.length ≤ 16384) (hrd : Rd intE L a (ints V)) (hx : 0 ≤ x ∧ x < 8) (hn : 0 ≤ n ∧ n < 8) (hr : regOk r)
    (hc : c = 8 ∨ c = 10) (ht : 0 ≤ r n.toNat ∧ r n.toNat + accN c ≤ V.length) :
    Con Try.prog 56 [.slice a (ints V).length cp, stV pc r m, insV c x n] L
      (Exs (fun y : Option Addr × Nat => .tuple #[.slice y.1 (ints (memF V r c x n)).length y.2, stV pc r m, .bool true]) (fun y => own intE 3 y.1 y.2 (ints (memF V r c x n)) :: L) (fun y => (ints (memF V r c x n)).length ≤ y.2 ∧ Ad y.1 (ints (memF V r c x n)).length)) := by
  have hl := ints_len V
  have hrn := hr n.toNat
  have hrx := hr x.toNat
  have hk : r n.toNat = ((r n.toNat).toNat : Int) := by omega
  rcases hc with rfl | rfl
  · have ht : 0 ≤ r n.toNat ∧ r n.toNat + 1 ≤ V.length := ht
    have e : memF V r 8 x n = lay V (r n.toNat).toNat [u8of (r x.toNat)] := rfl
    rw [e]
    refine con_of Try.tysOk Try.func56 rfl rfl ?_
    conv => whnf
    repeat' (first
      | (first | ((with_reducible refine Br.ff ?_); conv => whnf) | ((with_reducible refine Br.nt ?_); conv => whnf) | ((with_reducible refine Br.dt ?_ ?_); (focus (first | assumption | omega)); conv => whnf) | ((with_reducible refine Br.df ?_ ?_); (focus (first | assumption | omega)); conv => whnf))
      | ((with_reducible refine Nd.mk ?_ ?_); (focus (first | omega | rfl | assumption | (simp; done))); conv => whnf)
      | ((with_reducible refine Nc.go' (fun b => ?_)); conv => whnf)
      | ((with_reducible refine Ix.arr ?_ ?_); (focus (omega)); conv => whnf)
      | (first | (refine Ld.reg 2 rfl ?_ ?_; (focus (omega)); conv => whnf) | (refine Ld.at 1 rfl rfl ?_; conv => whnf))
      | (first | (refine LdN.at 2 rfl (by first | exact Nat.le_of_ble_eq_true rfl | (simp; done)) ?_; conv => whnf) | (refine LdN.at 4 rfl (by first | exact Nat.le_of_ble_eq_true rfl | (simp; done)) ?_; conv => whnf))
      | (refine St.at 2 rfl (by first | exact Nat.le_of_ble_eq_true rfl | (simp; done)) rfl ?_; conv => whnf)
      | ((with_reducible refine Dr.by (id := 16) Try.tysOk rfl [(0, 0), (2, 0), (1, 1), (3, 3), (4, 0)] ?_ ?_); (focus kernel_rfl); conv => whnf)
      | ((with_reducible refine Cl.is (Try.refThereT _ _ _ _ _ _ (by omega) ⟨by omega, by omega⟩ (by omega) ⟨by omega, by omega⟩) ?_); conv => whnf)
      | ((refine Cl.new (Try.refWithB _ _ _ _ (r n.toNat).toNat _ V [u8of (r x.toNat)] [r x.toNat] _ (by omega) hk (by simp; omega) (by ((repeat (first | assumption | apply Rd.cons)); done)) (by first | exact Rd.ptc 0 rfl [_] rfl | exact Rd.ptc 1 rfl [_] rfl | exact Rd.ptc 2 rfl [_] rfl) (by simp; omega) (by simp [ints, low, u8of_int])) (fun _ _ _ _ => ?_)); conv => whnf))
    all_goals (rename_i a3 c3 hc3 had3; exact Exs.of (a3, c3) (by dsimp only; (refine FEnt.ent ?_; (repeat (first | exact FEnt.rfl | (refine FEnt.at 0 rfl ?_; (try simp only [List.eraseIdx_cons_zero, List.eraseIdx_cons_succ, List.eraseIdx_zero, List.tail_cons])) | refine FEnt.drop ?_)); done)) ⟨hc3, had3⟩ rfl)
  · have ht : 0 ≤ r n.toNat ∧ r n.toNat + 2 ≤ V.length := ht
    have e : memF V r 10 x n = lay V (r n.toNat).toNat (putB (r x.toNat)) := rfl
    rw [e]
    have h1 : (r x.toNat).tmod 256 = r x.toNat % 256 := Int.tmod_eq_emod_of_nonneg hrx.1
    have h2 : (r x.toNat).tdiv 256 = r x.toNat / 256 := Int.tdiv_eq_ediv_of_nonneg hrx.1
    refine con_of Try.tysOk Try.func56 rfl rfl ?_
    conv => whnf
    repeat' (first
      | (first | ((with_reducible refine Br.ff ?_); conv => whnf) | ((with_reducible refine Br.nt ?_); conv => whnf) | ((with_reducible refine Br.dt ?_ ?_); (focus (first | assumption | omega)); conv => whnf) | ((with_reducible refine Br.df ?_ ?_); (focus (first | assumption | omega)); conv => whnf))
      | ((with_reducible refine Ar.i64 ?_ ?_); (focus omega); conv => whnf)
      | ((with_reducible refine Nd.mk ?_ ?_); (focus (first | omega | rfl | assumption | (simp; done))); conv => whnf)
      | ((with_reducible refine Nc.go' (fun b => ?_)); conv => whnf)
      | ((with_reducible refine Ix.arr ?_ ?_); (focus (omega)); conv => whnf)
      | (first | (refine Ld.reg 2 rfl ?_ ?_; (focus (omega)); conv => whnf) | (refine Ld.at 1 rfl rfl ?_; conv => whnf))
      | (first | (refine LdN.at 2 rfl (by first | exact Nat.le_of_ble_eq_true rfl | (simp; done)) ?_; conv => whnf) | (refine LdN.at 4 rfl (by first | exact Nat.le_of_ble_eq_true rfl | (simp; done)) ?_; conv => whnf))
      | (refine St.at 2 rfl (by first | exact Nat.le_of_ble_eq_true rfl | (simp; done)) rfl ?_; conv => whnf)
      | ((with_reducible refine Dr.by (id := 16) Try.tysOk rfl [(0, 0), (2, 0), (1, 1), (3, 3), (4, 0)] ?_ ?_); (focus kernel_rfl); conv => whnf)
      | ((with_reducible refine Cl.is (Try.refThereT _ _ _ _ _ _ (by omega) ⟨by omega, by omega⟩ (by omega) ⟨by omega, by omega⟩) ?_); conv => whnf)
      | ((rw [h1]); conv => whnf)
      | ((rw [h2]); conv => whnf)
      | ((refine Cl.new (Try.refWithB _ _ _ _ (r n.toNat).toNat _ V (putB (r x.toNat)) [r x.toNat % 256, r x.toNat / 256] _ (by omega) hk (by simp; omega) (by ((repeat (first | assumption | apply Rd.cons)); done)) (by first | exact Rd.ptc 0 rfl [_, _] rfl | exact Rd.ptc 1 rfl [_, _] rfl | exact Rd.ptc 2 rfl [_, _] rfl) (by simp; omega) (by simp [ints, low, putB, u8of_int])) (fun _ _ _ _ => ?_)); conv => whnf))
    all_goals (rename_i a3 c3 hc3 had3; exact Exs.of (a3, c3) (by dsimp only; (refine FEnt.ent ?_; (repeat (first | exact FEnt.rfl | (refine FEnt.at 0 rfl ?_; (try simp only [List.eraseIdx_cons_zero, List.eraseIdx_cons_succ, List.eraseIdx_zero, List.tail_cons])) | refine FEnt.drop ?_)); done)) ⟨hc3, had3⟩ rfl)
theorem Try.refAccNo (a : Option Addr) (cp : Nat) (V : List UInt8) (pc m c x n : Int) (r : Nat → Int) (L : List HP) (hV : V.length ≤ 16384) (hx : 0 ≤ x ∧ x < 8) (hn : 0 ≤ n ∧ n < 8) (hr : regOk r)
    (hc : c = 7 ∨ c = 8 ∨ c = 9 ∨ c = 10) (ht : ¬ (0 ≤ r n.toNat ∧ r n.toNat + accN c ≤ V.length)) :
    Con Try.prog 56 [.slice a (ints V).length cp, stV pc r m, insV c x n] L (Is (.tuple #[.slice a (ints V).length cp, stV pc r m, .bool false]) L) := by
  have hl := ints_len V
  have hrn := hr n.toNat
  rcases hc with rfl | rfl | rfl | rfl
  · have ht : ¬ (0 ≤ r n.toNat ∧ r n.toNat + 1 ≤ V.length) := ht
    refine con_of Try.tysOk Try.func56 rfl rfl ?_
    conv => whnf
    repeat' (first
      | (first | ((with_reducible refine Br.ff ?_); conv => whnf) | ((with_reducible refine Br.nf ?_); conv => whnf) | ((with_reducible refine Br.df ?_ ?_); (focus (first | assumption | omega)); conv => whnf))
      | ((with_reducible refine Nd.mk ?_ ?_); (focus (first | omega | rfl | assumption | (simp; done))); conv => whnf)
      | ((with_reducible refine Nc.go' (fun b => ?_)); conv => whnf)
      | ((with_reducible refine Ix.arr ?_ ?_); (focus (omega)); conv => whnf)
      | (first | (refine Ld.reg 2 rfl ?_ ?_; (focus (omega)); conv => whnf) | (refine Ld.at 1 rfl rfl ?_; conv => whnf))
      | (first | (refine LdN.at 0 rfl (by first | exact Nat.le_of_ble_eq_true rfl | (simp; done)) ?_; conv => whnf) | (refine LdN.at 2 rfl (by first | exact Nat.le_of_ble_eq_true rfl | (simp; done)) ?_; conv => whnf))
      | (refine St.at 0 rfl (by first | exact Nat.le_of_ble_eq_true rfl | (simp; done)) rfl ?_; conv => whnf)
      | ((with_reducible refine Dr.by (id := 6) Try.tysOk rfl [(0, 0), (2, 0), (1, 1), (3, 3), (4, 0)] ?_ ?_); (focus kernel_rfl); conv => whnf)
      | ((with_reducible refine Cl.is (Try.refThereF _ _ _ _ _ _ (by omega) ⟨by omega, by omega⟩ ⟨by omega, by omega⟩ (by omega) (mt (fun h => ⟨by omega, by omega⟩) ht)) ?_); conv => whnf))
    all_goals (refine Is.ent ?_ ?_; (focus (refine FEnt.ent ?_; (repeat (first | exact FEnt.rfl | refine FEnt.drop ?_)); done)); (exact Is.rfl))
  · have ht : ¬ (0 ≤ r n.toNat ∧ r n.toNat + 1 ≤ V.length) := ht
    refine con_of Try.tysOk Try.func56 rfl rfl ?_
    conv => whnf
    repeat' (first
      | (first | ((with_reducible refine Br.ff ?_); conv => whnf) | ((with_reducible refine Br.nf ?_); conv => whnf) | ((with_reducible refine Br.df ?_ ?_); (focus (first | assumption | omega)); conv => whnf))
      | ((with_reducible refine Nd.mk ?_ ?_); (focus (first | omega | rfl | assumption | (simp; done))); conv => whnf)
      | ((with_reducible refine Nc.go' (fun b => ?_)); conv => whnf)
      | ((with_reducible refine Ix.arr ?_ ?_); (focus (omega)); conv => whnf)
      | (first | (refine Ld.reg 2 rfl ?_ ?_; (focus (omega)); conv => whnf) | (refine Ld.at 1 rfl rfl ?_; conv => whnf))
      | (first | (refine LdN.at 0 rfl (by first | exact Nat.le_of_ble_eq_true rfl | (simp; done)) ?_; conv => whnf) | (refine LdN.at 2 rfl (by first | exact Nat.le_of_ble_eq_true rfl | (simp; done)) ?_; conv => whnf))
      | (refine St.at 0 rfl (by first | exact Nat.le_of_ble_eq_true rfl | (simp; done)) rfl ?_; conv => whnf)
      | ((with_reducible refine Dr.by (id := 6) Try.tysOk rfl [(0, 0), (2, 0), (1, 1), (3, 3), (4, 0)] ?_ ?_); (focus kernel_rfl); conv => whnf)
      | ((with_reducible refine Cl.is (Try.refThereF _ _ _ _ _ _ (by omega) ⟨by omega, by omega⟩ ⟨by omega, by omega⟩ (by omega) (mt (fun h => ⟨by omega, by omega⟩) ht)) ?_); conv => whnf))
    all_goals (refine Is.ent ?_ ?_; (focus (refine FEnt.ent ?_; (repeat (first | exact FEnt.rfl | refine FEnt.drop ?_)); done)); (exact Is.rfl))
  · have ht : ¬ (0 ≤ r n.toNat ∧ r n.toNat + 2 ≤ V.length) := ht
    refine con_of Try.tysOk Try.func56 rfl rfl ?_
    conv => whnf
    repeat' (first
      | (first | ((with_reducible refine Br.tt ?_); conv => whnf) | ((with_reducible refine Br.nf ?_); conv => whnf) | ((with_reducible refine Br.dt ?_ ?_); (focus (first | assumption | omega)); conv => whnf))
      | ((with_reducible refine Nd.mk ?_ ?_); (focus (first | omega | rfl | assumption | (simp; done))); conv => whnf)
      | ((with_reducible refine Nc.go' (fun b => ?_)); conv => whnf)
      | ((with_reducible refine Ix.arr ?_ ?_); (focus (omega)); conv => whnf)
      | (first | (refine Ld.reg 2 rfl ?_ ?_; (focus (omega)); conv => whnf) | (refine Ld.at 1 rfl rfl ?_; conv => whnf))
      | (first | (refine LdN.at 0 rfl (by first | exact Nat.le_of_ble_eq_true rfl | (simp; done)) ?_; conv => whnf) | (refine LdN.at 2 rfl (by first | exact Nat.le_of_ble_eq_true rfl | (simp; done)) ?_; conv => whnf))
      | (refine St.at 0 rfl (by first | exact Nat.le_of_ble_eq_true rfl | (simp; done)) rfl ?_; conv => whnf)
      | ((with_reducible refine Dr.by (id := 6) Try.tysOk rfl [(0, 0), (2, 0), (1, 1), (3, 3), (4, 0)] ?_ ?_); (focus kernel_rfl); conv => whnf)
      | ((with_reducible refine Cl.is (Try.refThereF _ _ _ _ _ _ (by omega) ⟨by omega, by omega⟩ ⟨by omega, by omega⟩ (by omega) (mt (fun h => ⟨by omega, by omega⟩) ht)) ?_); conv => whnf))
    all_goals (refine Is.ent ?_ ?_; (focus (refine FEnt.ent ?_; (repeat (first | exact FEnt.rfl | refine FEnt.drop ?_)); done)); (exact Is.rfl))
  · have ht : ¬ (0 ≤ r n.toNat ∧ r n.toNat + 2 ≤ V.length) := ht
    refine con_of Try.tysOk Try.func56 rfl rfl ?_
    conv => whnf
    repeat' (first
      | (first | ((with_reducible refine Br.ff ?_); conv => whnf) | ((with_reducible refine Br.nf ?_); conv => whnf) | ((with_reducible refine Br.dt ?_ ?_); (focus (first | assumption | omega)); conv => whnf) | ((with_reducible refine Br.df ?_ ?_); (focus (first | assumption | omega)); conv => whnf))
      | ((with_reducible refine Nd.mk ?_ ?_); (focus (first | omega | rfl | assumption | (simp; done))); conv => whnf)
      | ((with_reducible refine Nc.go' (fun b => ?_)); conv => whnf)
      | ((with_reducible refine Ix.arr ?_ ?_); (focus (omega)); conv => whnf)
      | (first | (refine Ld.reg 2 rfl ?_ ?_; (focus (omega)); conv => whnf) | (refine Ld.at 1 rfl rfl ?_; conv => whnf))
      | (first | (refine LdN.at 0 rfl (by first | exact Nat.le_of_ble_eq_true rfl | (simp; done)) ?_; conv => whnf) | (refine LdN.at 2 rfl (by first | exact Nat.le_of_ble_eq_true rfl | (simp; done)) ?_; conv => whnf))
      | (refine St.at 0 rfl (by first | exact Nat.le_of_ble_eq_true rfl | (simp; done)) rfl ?_; conv => whnf)
      | ((with_reducible refine Dr.by (id := 6) Try.tysOk rfl [(0, 0), (2, 0), (1, 1), (3, 3), (4, 0)] ?_ ?_); (focus kernel_rfl); conv => whnf)
      | ((with_reducible refine Cl.is (Try.refThereF _ _ _ _ _ _ (by omega) ⟨by omega, by omega⟩ ⟨by omega, by omega⟩ (by omega) (mt (fun h => ⟨by omega, by omega⟩) ht)) ?_); conv => whnf))
    all_goals (refine Is.ent ?_ ?_; (focus (refine FEnt.ent ?_; (repeat (first | exact FEnt.rfl | refine FEnt.drop ?_)); done)); (exact Is.rfl))
end Go.Proofs
