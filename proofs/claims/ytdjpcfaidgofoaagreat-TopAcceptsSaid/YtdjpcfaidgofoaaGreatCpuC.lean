/- The processor: what an instruction does to a view and a state: contracts. -/
import Derived.Test.YtdjpcfaidgofoaaGreatCpuB
import Derived.Test.YtdjpcfaidgofoaaGreatEngMore
set_option linter.all false
namespace Go.Proofs
open Go.Eng
set_option linter.unusedVariables false
set_option maxRecDepth 100000
set_option maxHeartbeats 4000000
abbrev stV (pc : Int) (r : Nat → Int) (m : Int) : Value := .agg (stC pc r m).toArray
/-- what was done -/
abbrev Otp := Int × Int × Int × Int
abbrev outV (o : Otp) : Value := .agg #[i64W o.1, i64W o.2.1, i64W o.2.2.1, i64W o.2.2.2]
/-- how many bytes are read or written -/
abbrev accN (c : Int) : Int := if c = 9 ∨ c = 10 then 2 else 1
/-- is it refused? -/
def brkP (size c p : Int) : Prop := 7 ≤ c ∧ c ≤ 10 ∧ ¬ (0 ≤ p ∧ p + accN c ≤ size)
instance {size c p : Int} : Decidable (brkP size c p) := inferInstanceAs (Decidable (7 ≤ c ∧ c ≤ 10 ∧ ¬ (0 ≤ p ∧ p + accN c ≤ size)))
def regF (V : List UInt8) (r : Nat → Int) (c x n : Int) : Nat → Int :=
  if c = 1 then upd r x.toNat n
  else if 2 ≤ c ∧ c ≤ 6 then upd r x.toNat (madeF c (r x.toNat) (r n.toNat))
  else if c = 7 then upd r x.toNat (bAt V (r n.toNat).toNat)
  else if c = 9 then upd r x.toNat (bAt V (r n.toNat).toNat + 256 * bAt V ((r n.toNat).toNat + 1))
  else r
def memF (V : List UInt8) (r : Nat → Int) (c x n : Int) : List UInt8 :=
  if c = 8 then lay V (r n.toNat).toNat [u8of (r x.toNat)] else if c = 10 then lay V (r n.toNat).toNat (putB (r x.toNat)) else V
def modF (m c : Int) : Int := if c = 0 then 2 else if c = 15 then 1 else m
def outF (c x n : Int) : Otp := if c = 0 then (4, 0, 0, 0) else if c = 15 then (3, 0, 0, 0) else if c = 14 then (2, n, x, 0) else (1, 0, 0, 0)
def pcF (pc : Int) (r : Nat → Int) (c x n : Int) : Int := if c = 0 then pc else if goesP c (r x.toNat) (r 0) then n else pc + 4
theorem Tryz.do0 (bs b : Nat) (base size pc m x n : Int) (r : Nat → Int) (L : List HP) :
    Con Tryz.prog 226 [viewV b base size, sV bs, insV 0 x n] (ptc bs 181 (stC pc r m) :: L) (Is (outV (4, 0, 0, 0)) (ptc bs 181 (stC pc r 2) :: L)) := by
  refine con_of Tryz.tysOk Tryz.func226 rfl rfl ?_
  conv => whnf
  repeat' (first
    | ((with_reducible refine Br.dt ?_ ?_); (focus (first | assumption | omega)); conv => whnf)
    | ((with_reducible refine Nd.mk ?_ ?_); (focus (first | omega | rfl | assumption | (simp; done))); conv => whnf)
    | ((with_reducible refine Nc.go' (fun b => ?_)); conv => whnf)
    | (refine Ld.at 2 rfl rfl ?_; conv => whnf)
    | (refine LdN.at 1 rfl (by first | exact Nat.le_of_ble_eq_true rfl | (simp; done)) ?_; conv => whnf)
    | (first | (refine St.at 0 rfl (by first | exact Nat.le_of_ble_eq_true rfl | (simp; done)) rfl ?_; conv => whnf) | (refine St.at 1 rfl (by first | exact Nat.le_of_ble_eq_true rfl | (simp; done)) rfl ?_; conv => whnf) | (refine St.at 4 rfl (by first | exact Nat.le_of_ble_eq_true rfl | (simp; done)) rfl ?_; conv => whnf)))
  all_goals (refine Is.ent ?_ ?_; (focus (refine FEnt.ent ?_; (repeat (first | exact FEnt.rfl | (refine FEnt.at 4 rfl ?_; (try simp only [List.eraseIdx_cons_zero, List.eraseIdx_cons_succ, List.eraseIdx_zero, List.tail_cons])) | refine FEnt.drop ?_)); done)); (exact Is.rfl))
theorem Tryz.do15 (bs b : Nat) (base size pc m x n : Int) (r : Nat → Int) (L : List HP) (hx : 0 ≤ x ∧ x < 8) (hpc : 0 ≤ pc ∧ pc ≤ 1000000) :
    Con Tryz.prog 226 [viewV b base size, sV bs, insV 15 x n] (ptc bs 181 (stC pc r m) :: L) (Is (outV (3, 0, 0, 0)) (ptc bs 181 (stC (pc + 4) r 1) :: L)) := by
  refine con_of Tryz.tysOk Tryz.func226 rfl rfl ?_
  conv => whnf
  repeat' (first
    | (first | ((with_reducible refine Br.ff ?_); conv => whnf) | ((with_reducible refine Br.dt ?_ ?_); (focus (first | assumption | omega)); conv => whnf) | ((with_reducible refine Br.df ?_ ?_); (focus (first | assumption | omega)); conv => whnf))
    | ((with_reducible refine Ar.i64 ?_ ?_); (focus omega); conv => whnf)
    | ((with_reducible refine Nd.mk ?_ ?_); (focus (first | omega | rfl | assumption | (simp; done))); conv => whnf)
    | ((with_reducible refine Nc.go' (fun b => ?_)); conv => whnf)
    | (first | (refine Ld.at 2 rfl rfl ?_; conv => whnf) | (refine Ld.at 4 rfl rfl ?_; conv => whnf))
    | (first | (refine LdN.at 0 rfl (by first | exact Nat.le_of_ble_eq_true rfl | (simp; done)) ?_; conv => whnf) | (refine LdN.at 1 rfl (by first | exact Nat.le_of_ble_eq_true rfl | (simp; done)) ?_; conv => whnf) | (refine LdN.at 2 rfl (by first | exact Nat.le_of_ble_eq_true rfl | (simp; done)) ?_; conv => whnf))
    | (first | (refine St.at 0 rfl (by first | exact Nat.le_of_ble_eq_true rfl | (simp; done)) rfl ?_; conv => whnf) | (refine St.at 1 rfl (by first | exact Nat.le_of_ble_eq_true rfl | (simp; done)) rfl ?_; conv => whnf) | (refine St.at 4 rfl (by first | exact Nat.le_of_ble_eq_true rfl | (simp; done)) rfl ?_; conv => whnf))
    | ((refine Cl.isAt 4 rfl (Con.df (by omega) (Tryz.goes _ pc 1 15 n x r _ hx)) ?_); conv => whnf))
  all_goals (refine Is.ent ?_ ?_; (focus (refine FEnt.ent ?_; (repeat (first | exact FEnt.rfl | (refine FEnt.at 4 rfl ?_; (try simp only [List.eraseIdx_cons_zero, List.eraseIdx_cons_succ, List.eraseIdx_zero, List.tail_cons])) | refine FEnt.drop ?_)); done)); (exact Is.rfl))
theorem Tryz.do14 (bs b : Nat) (base size pc m x n : Int) (r : Nat → Int) (L : List HP) (hx : 0 ≤ x ∧ x < 8) (hpc : 0 ≤ pc ∧ pc ≤ 1000000) :
    Con Tryz.prog 226 [viewV b base size, sV bs, insV 14 x n] (ptc bs 181 (stC pc r m) :: L) (Is (outV (2, n, x, 0)) (ptc bs 181 (stC (pc + 4) r m) :: L)) := by
  refine con_of Tryz.tysOk Tryz.func226 rfl rfl ?_
  conv => whnf
  repeat' (first
    | (first | ((with_reducible refine Br.ff ?_); conv => whnf) | ((with_reducible refine Br.dt ?_ ?_); (focus (first | assumption | omega)); conv => whnf) | ((with_reducible refine Br.df ?_ ?_); (focus (first | assumption | omega)); conv => whnf))
    | ((with_reducible refine Ar.i64 ?_ ?_); (focus omega); conv => whnf)
    | ((with_reducible refine Nd.mk ?_ ?_); (focus (first | omega | rfl | assumption | (simp; done))); conv => whnf)
    | ((with_reducible refine Nc.go' (fun b => ?_)); conv => whnf)
    | (first | (refine Ld.at 2 rfl rfl ?_; conv => whnf) | (refine Ld.at 4 rfl rfl ?_; conv => whnf))
    | (first | (refine LdN.at 0 rfl (by first | exact Nat.le_of_ble_eq_true rfl | (simp; done)) ?_; conv => whnf) | (refine LdN.at 1 rfl (by first | exact Nat.le_of_ble_eq_true rfl | (simp; done)) ?_; conv => whnf) | (refine LdN.at 2 rfl (by first | exact Nat.le_of_ble_eq_true rfl | (simp; done)) ?_; conv => whnf))
    | (first | (refine St.at 0 rfl (by first | exact Nat.le_of_ble_eq_true rfl | (simp; done)) rfl ?_; conv => whnf) | (refine St.at 1 rfl (by first | exact Nat.le_of_ble_eq_true rfl | (simp; done)) rfl ?_; conv => whnf) | (refine St.at 4 rfl (by first | exact Nat.le_of_ble_eq_true rfl | (simp; done)) rfl ?_; conv => whnf))
    | ((refine Cl.isAt 4 rfl (Con.df (by omega) (Tryz.goes _ pc m 14 n x r _ hx)) ?_); conv => whnf))
  all_goals (refine Is.ent ?_ ?_; (focus (refine FEnt.ent ?_; (repeat (first | exact FEnt.rfl | (refine FEnt.at 4 rfl ?_; (try simp only [List.eraseIdx_cons_zero, List.eraseIdx_cons_succ, List.eraseIdx_zero, List.tail_cons])) | refine FEnt.drop ?_)); done)); (exact Is.rfl))
theorem Tryz.do1 (bs b : Nat) (base size pc m x n : Int) (r : Nat → Int) (L : List HP) (hx : 0 ≤ x ∧ x < 8) (hpc : 0 ≤ pc ∧ pc ≤ 1000000) :
    Con Tryz.prog 226 [viewV b base size, sV bs, insV 1 x n] (ptc bs 181 (stC pc r m) :: L) (Is (outV (1, 0, 0, 0)) (ptc bs 181 (stC (pc + 4) (upd r x.toNat n) m) :: L)) := by
  refine con_of Tryz.tysOk Tryz.func226 rfl rfl ?_
  conv => whnf
  repeat' (first
    | (first | ((with_reducible refine Br.ff ?_); conv => whnf) | ((with_reducible refine Br.dt ?_ ?_); (focus (first | assumption | omega)); conv => whnf) | ((with_reducible refine Br.df ?_ ?_); (focus (first | assumption | omega)); conv => whnf))
    | ((with_reducible refine Ar.i64 ?_ ?_); (focus omega); conv => whnf)
    | ((with_reducible refine Nd.mk ?_ ?_); (focus (first | omega | rfl | assumption | (simp; done))); conv => whnf)
    | ((with_reducible refine Nc.go' (fun b => ?_)); conv => whnf)
    | ((with_reducible refine Ix.arr ?_ ?_); (focus (omega)); conv => whnf)
    | (first | (refine Ld.at 2 rfl rfl ?_; conv => whnf) | (refine Ld.at 4 rfl rfl ?_; conv => whnf))
    | (first | (refine LdN.at 0 rfl (by first | exact Nat.le_of_ble_eq_true rfl | (simp; done)) ?_; conv => whnf) | (refine LdN.at 1 rfl (by first | exact Nat.le_of_ble_eq_true rfl | (simp; done)) ?_; conv => whnf) | (refine LdN.at 2 rfl (by first | exact Nat.le_of_ble_eq_true rfl | (simp; done)) ?_; conv => whnf))
    | (first | (refine St.reg 4 rfl ?_ ?_; (focus (omega)); conv => whnf) | (refine St.at 0 rfl (by first | exact Nat.le_of_ble_eq_true rfl | (simp; done)) rfl ?_; conv => whnf) | (refine St.at 1 rfl (by first | exact Nat.le_of_ble_eq_true rfl | (simp; done)) rfl ?_; conv => whnf) | (refine St.at 4 rfl (by first | exact Nat.le_of_ble_eq_true rfl | (simp; done)) rfl ?_; conv => whnf))
    | ((with_reducible refine Dr.by (id := 12) Tryz.tysOk rfl [(0, 0), (1, 0), (3, 0), (5, 0), (6, 0), (2, 1), (4, 1), (7, 0), (8, 3)] ?_ ?_); (focus kernel_rfl); conv => whnf)
    | ((refine Cl.isAt 4 rfl (Con.df (by omega) (Tryz.goes _ pc m 1 n x _ _ hx)) ?_); conv => whnf))
  all_goals (refine Is.ent ?_ ?_; (focus (refine FEnt.ent ?_; (repeat (first | exact FEnt.rfl | (refine FEnt.at 4 rfl ?_; (try simp only [List.eraseIdx_cons_zero, List.eraseIdx_cons_succ, List.eraseIdx_zero, List.tail_cons])) | refine FEnt.drop ?_)); done)); (exact Is.rfl))
theorem Tryz.do2 (bs b : Nat) (base size pc m c x n : Int) (r : Nat → Int) (L : List HP) (hx : 0 ≤ x ∧ x < 8) (hn : 0 ≤ n ∧ n < 8) (hr : regOk r) (hpc : 0 ≤ pc ∧ pc ≤ 1000000) (hc : c = 2 ∨ c = 3 ∨ c = 4 ∨ c = 5 ∨ c = 6) :
    Con Tryz.prog 226 [viewV b base size, sV bs, insV c x n] (ptc bs 181 (stC pc r m) :: L) (Is (outV (1, 0, 0, 0)) (ptc bs 181 (stC (pc + 4) (upd r x.toNat (madeF c (r x.toNat) (r n.toNat))) m) :: L)) := by
  have h1 := hr x.toNat
  have h2 := hr n.toNat
  rcases hc with rfl | rfl | rfl | rfl | rfl
  all_goals
    refine con_of Tryz.tysOk Tryz.func226 rfl rfl ?_
    conv => whnf
    repeat' (first
      | (first | ((with_reducible refine Br.ff ?_); conv => whnf) | ((with_reducible refine Br.dt ?_ ?_); (focus (first | assumption | omega)); conv => whnf) | ((with_reducible refine Br.df ?_ ?_); (focus (first | assumption | omega)); conv => whnf))
      | ((with_reducible refine Ar.i64 ?_ ?_); (focus omega); conv => whnf)
      | ((with_reducible refine Nd.mk ?_ ?_); (focus (first | omega | rfl | assumption | (simp; done))); conv => whnf)
      | ((with_reducible refine Nc.go' (fun b => ?_)); conv => whnf)
      | ((with_reducible refine Ix.arr ?_ ?_); (focus (omega)); conv => whnf)
      | (first | (refine Ld.reg 4 rfl ?_ ?_; (focus (omega)); conv => whnf) | (refine Ld.at 2 rfl rfl ?_; conv => whnf) | (refine Ld.at 4 rfl rfl ?_; conv => whnf))
      | (first | (refine LdN.at 0 rfl (by first | exact Nat.le_of_ble_eq_true rfl | (simp; done)) ?_; conv => whnf) | (refine LdN.at 1 rfl (by first | exact Nat.le_of_ble_eq_true rfl | (simp; done)) ?_; conv => whnf) | (refine LdN.at 2 rfl (by first | exact Nat.le_of_ble_eq_true rfl | (simp; done)) ?_; conv => whnf))
      | (first | (refine St.reg 4 rfl ?_ ?_; (focus (omega)); conv => whnf) | (refine St.at 0 rfl (by first | exact Nat.le_of_ble_eq_true rfl | (simp; done)) rfl ?_; conv => whnf) | (refine St.at 1 rfl (by first | exact Nat.le_of_ble_eq_true rfl | (simp; done)) rfl ?_; conv => whnf) | (refine St.at 4 rfl (by first | exact Nat.le_of_ble_eq_true rfl | (simp; done)) rfl ?_; conv => whnf))
      | ((with_reducible refine Dr.by (id := 18) Tryz.tysOk rfl [(0, 0), (1, 0), (3, 0), (5, 0), (6, 0), (8, 0), (9, 0), (12, 0), (13, 0), (15, 0), (16, 0), (20, 0), (21, 0), (2, 1), (4, 1), (7, 1), (10, 0), (11, 1), (14, 1), (17, 0), (18, 1), (19, 1), (22, 0), (23, 3)] ?_ ?_); (focus kernel_rfl); conv => whnf)
      | ((with_reducible refine CD.is (fun M => Tryz.reckon _ _ _ _ h1 h2) ?_); conv => whnf)
      | ((refine Cl.isAt 4 rfl (Con.df (by omega) (Tryz.goes _ pc m _ n x _ _ hx)) ?_); conv => whnf))
    all_goals (refine Is.ent ?_ ?_; (focus (refine FEnt.ent ?_; (repeat (first | exact FEnt.rfl | (refine FEnt.at 4 rfl ?_; (try simp only [List.eraseIdx_cons_zero, List.eraseIdx_cons_succ, List.eraseIdx_zero, List.tail_cons])) | refine FEnt.drop ?_)); done)); (exact Is.rfl))
theorem Tryz.doAcc (bs b : Nat) (X Y : List UInt8) (base size pc m c x n : Int) (r q : Nat → Int) (L : List HP) (hx : 0 ≤ x ∧ x < 8) (hpc : 0 ≤ pc ∧ pc ≤ 1000000) (hc : c = 7 ∨ c = 8 ∨ c = 9 ∨ c = 10)
    (ha : ∀ L', Con Tryz.prog 252 [viewV b base size, sV bs, insV c x n] (ptc bs 181 (stC pc r m) :: Tryz.memH b X :: L') (Is (i64W 0) (ptc bs 181 (stC pc q m) :: Tryz.memH b Y :: L'))) :
    Con Tryz.prog 226 [viewV b base size, sV bs, insV c x n] (ptc bs 181 (stC pc r m) :: Tryz.memH b X :: L) (Is (outV (1, 0, 0, 0)) (ptc bs 181 (stC (pc + 4) q m) :: Tryz.memH b Y :: L)) := by
  rcases hc with rfl | rfl | rfl | rfl
  all_goals
    refine con_of Tryz.tysOk Tryz.func226 rfl rfl ?_
    conv => whnf
    repeat' (first
      | (first | ((with_reducible refine Br.ff ?_); conv => whnf) | ((with_reducible refine Br.dt ?_ ?_); (focus (first | assumption | omega)); conv => whnf) | ((with_reducible refine Br.df ?_ ?_); (focus (first | assumption | omega)); conv => whnf) | ((with_reducible refine Br.ndf ?_ ?_); (focus (first | assumption | omega)); conv => whnf))
      | ((with_reducible refine Ar.i64 ?_ ?_); (focus omega); conv => whnf)
      | ((with_reducible refine Nd.mk ?_ ?_); (focus (first | omega | rfl | assumption | (simp; done))); conv => whnf)
      | ((with_reducible refine Nc.go' (fun b => ?_)); conv => whnf)
      | (first | (refine Ld.at 0 rfl rfl ?_; conv => whnf) | (refine Ld.at 2 rfl rfl ?_; conv => whnf))
      | (first | (refine LdN.at 2 rfl (by first | exact Nat.le_of_ble_eq_true rfl | (simp; done)) ?_; conv => whnf) | (refine LdN.at 3 rfl (by first | exact Nat.le_of_ble_eq_true rfl | (simp; done)) ?_; conv => whnf) | (refine LdN.at 4 rfl (by first | exact Nat.le_of_ble_eq_true rfl | (simp; done)) ?_; conv => whnf))
      | (first | (refine St.at 0 rfl (by first | exact Nat.le_of_ble_eq_true rfl | (simp; done)) rfl ?_; conv => whnf) | (refine St.at 3 rfl (by first | exact Nat.le_of_ble_eq_true rfl | (simp; done)) rfl ?_; conv => whnf))
      | (first | ((refine Cl.isAt2 4 4 rfl rfl (ha _) ?_); conv => whnf) | ((refine Cl.isAt 0 rfl (Con.df (by omega) (Tryz.goes _ pc m _ n x _ _ hx)) ?_); conv => whnf)))
    all_goals (refine Is.ent ?_ ?_; (focus (refine FEnt.ent ?_; (repeat (first | exact FEnt.rfl | (refine FEnt.at 0 rfl ?_; (try simp only [List.eraseIdx_cons_zero, List.eraseIdx_cons_succ, List.eraseIdx_zero, List.tail_cons])) | refine FEnt.drop ?_)); done)); (exact Is.rfl))
theorem Tryz.doAccNo (bs b : Nat) (base size pc m c x n : Int) (r : Nat → Int) (L : List HP) (hc : c = 7 ∨ c = 8 ∨ c = 9 ∨ c = 10)
    (ha : ∀ L', Con Tryz.prog 252 [viewV b base size, sV bs, insV c x n] (ptc bs 181 (stC pc r m) :: L') (Is (i64W 6) (ptc bs 181 (stC pc r m) :: L'))) :
    Con Tryz.prog 226 [viewV b base size, sV bs, insV c x n] (ptc bs 181 (stC pc r m) :: L) (Is (outV (5, 0, 0, 6)) (ptc bs 181 (stC pc r m) :: L)) := by
  rcases hc with rfl | rfl | rfl | rfl
  all_goals
    refine con_of Tryz.tysOk Tryz.func226 rfl rfl ?_
    conv => whnf
    repeat' (first
      | (first | ((with_reducible refine Br.dt ?_ ?_); (focus (first | assumption | omega)); conv => whnf) | ((with_reducible refine Br.df ?_ ?_); (focus (first | assumption | omega)); conv => whnf) | ((with_reducible refine Br.ndt ?_ ?_); (focus (first | assumption | omega)); conv => whnf))
      | ((with_reducible refine Nd.mk ?_ ?_); (focus (first | omega | rfl | assumption | (simp; done))); conv => whnf)
      | ((with_reducible refine Nc.go' (fun b => ?_)); conv => whnf)
      | (refine Ld.at 2 rfl rfl ?_; conv => whnf)
      | (first | (refine LdN.at 1 rfl (by first | exact Nat.le_of_ble_eq_true rfl | (simp; done)) ?_; conv => whnf) | (refine LdN.at 2 rfl (by first | exact Nat.le_of_ble_eq_true rfl | (simp; done)) ?_; conv => whnf) | (refine LdN.at 3 rfl (by first | exact Nat.le_of_ble_eq_true rfl | (simp; done)) ?_; conv => whnf))
      | (first | (refine St.at 0 rfl (by first | exact Nat.le_of_ble_eq_true rfl | (simp; done)) rfl ?_; conv => whnf) | (refine St.at 1 rfl (by first | exact Nat.le_of_ble_eq_true rfl | (simp; done)) rfl ?_; conv => whnf))
      | ((refine Cl.isAt 4 rfl (ha _) ?_); conv => whnf))
    all_goals (refine Is.ent ?_ ?_; (focus (refine FEnt.ent ?_; (repeat (first | exact FEnt.rfl | (refine FEnt.at 4 rfl ?_; (try simp only [List.eraseIdx_cons_zero, List.eraseIdx_cons_succ, List.eraseIdx_zero, List.tail_cons])) | refine FEnt.drop ?_)); done)); (exact Is.rfl))
theorem Tryz.doJump (bs b : Nat) (base size pc m c x n : Int) (r : Nat → Int) (L : List HP) (hx : 0 ≤ x ∧ x < 8) (hc : c = 11 ∨ c = 12 ∨ c = 13) (hg : goesP c (r x.toNat) (r (Int.toNat 0))) :
    Con Tryz.prog 226 [viewV b base size, sV bs, insV c x n] (ptc bs 181 (stC pc r m) :: L) (Is (outV (1, 0, 0, 0)) (ptc bs 181 (stC n r m) :: L)) := by
  rcases hc with rfl | rfl | rfl
  all_goals
    refine con_of Tryz.tysOk Tryz.func226 rfl rfl ?_
    conv => whnf
    repeat' (first
      | (first | ((with_reducible refine Br.tt ?_); conv => whnf) | ((with_reducible refine Br.df ?_ ?_); (focus (first | assumption | omega)); conv => whnf))
      | ((with_reducible refine Nd.mk ?_ ?_); (focus (first | omega | rfl | assumption | (simp; done))); conv => whnf)
      | ((with_reducible refine Nc.go' (fun b => ?_)); conv => whnf)
      | (refine Ld.at 2 rfl rfl ?_; conv => whnf)
      | (first | (refine LdN.at 0 rfl (by first | exact Nat.le_of_ble_eq_true rfl | (simp; done)) ?_; conv => whnf) | (refine LdN.at 1 rfl (by first | exact Nat.le_of_ble_eq_true rfl | (simp; done)) ?_; conv => whnf) | (refine LdN.at 2 rfl (by first | exact Nat.le_of_ble_eq_true rfl | (simp; done)) ?_; conv => whnf))
      | (first | (refine St.at 0 rfl (by first | exact Nat.le_of_ble_eq_true rfl | (simp; done)) rfl ?_; conv => whnf) | (refine St.at 1 rfl (by first | exact Nat.le_of_ble_eq_true rfl | (simp; done)) rfl ?_; conv => whnf) | (refine St.at 4 rfl (by first | exact Nat.le_of_ble_eq_true rfl | (simp; done)) rfl ?_; conv => whnf))
      | ((refine Cl.isAt 4 rfl (Con.dt hg (Tryz.goes _ pc m _ n x r _ hx)) ?_); conv => whnf))
    all_goals (refine Is.ent ?_ ?_; (focus (refine FEnt.ent ?_; (repeat (first | exact FEnt.rfl | (refine FEnt.at 4 rfl ?_; (try simp only [List.eraseIdx_cons_zero, List.eraseIdx_cons_succ, List.eraseIdx_zero, List.tail_cons])) | refine FEnt.drop ?_)); done)); (exact Is.rfl))
theorem Tryz.doStay (bs b : Nat) (base size pc m c x n : Int) (r : Nat → Int) (L : List HP) (hx : 0 ≤ x ∧ x < 8) (hpc : 0 ≤ pc ∧ pc ≤ 1000000) (hc : c = 12 ∨ c = 13) (hg : ¬ goesP c (r x.toNat) (r (Int.toNat 0))) :
    Con Tryz.prog 226 [viewV b base size, sV bs, insV c x n] (ptc bs 181 (stC pc r m) :: L) (Is (outV (1, 0, 0, 0)) (ptc bs 181 (stC (pc + 4) r m) :: L)) := by
  rcases hc with rfl | rfl
  all_goals
    refine con_of Tryz.tysOk Tryz.func226 rfl rfl ?_
    conv => whnf
    repeat' (first
      | (first | ((with_reducible refine Br.ff ?_); conv => whnf) | ((with_reducible refine Br.df ?_ ?_); (focus (first | assumption | omega)); conv => whnf))
      | ((with_reducible refine Ar.i64 ?_ ?_); (focus omega); conv => whnf)
      | ((with_reducible refine Nd.mk ?_ ?_); (focus (first | omega | rfl | assumption | (simp; done))); conv => whnf)
      | ((with_reducible refine Nc.go' (fun b => ?_)); conv => whnf)
      | (first | (refine Ld.at 2 rfl rfl ?_; conv => whnf) | (refine Ld.at 4 rfl rfl ?_; conv => whnf))
      | (first | (refine LdN.at 0 rfl (by first | exact Nat.le_of_ble_eq_true rfl | (simp; done)) ?_; conv => whnf) | (refine LdN.at 1 rfl (by first | exact Nat.le_of_ble_eq_true rfl | (simp; done)) ?_; conv => whnf) | (refine LdN.at 2 rfl (by first | exact Nat.le_of_ble_eq_true rfl | (simp; done)) ?_; conv => whnf))
      | (first | (refine St.at 0 rfl (by first | exact Nat.le_of_ble_eq_true rfl | (simp; done)) rfl ?_; conv => whnf) | (refine St.at 1 rfl (by first | exact Nat.le_of_ble_eq_true rfl | (simp; done)) rfl ?_; conv => whnf) | (refine St.at 4 rfl (by first | exact Nat.le_of_ble_eq_true rfl | (simp; done)) rfl ?_; conv => whnf))
      | ((refine Cl.isAt 4 rfl (Con.df hg (Tryz.goes _ pc m _ n x r _ hx)) ?_); conv => whnf))
    all_goals (refine Is.ent ?_ ?_; (focus (refine FEnt.ent ?_; (repeat (first | exact FEnt.rfl | (refine FEnt.at 4 rfl ?_; (try simp only [List.eraseIdx_cons_zero, List.eraseIdx_cons_succ, List.eraseIdx_zero, List.tail_cons])) | refine FEnt.drop ?_)); done)); (exact Is.rfl))
/-- an instruction that is not refused -/
theorem Tryz.doOk (bs b : Nat) (pre V post : List UInt8) (base size pc m c x n : Int) (r : Nat → Int) (L : List HP) (hb : base = pre.length) (hs : size = V.length) (hx : (pre ++ V ++ post).length ≤ 16384)
    (hm : mayI c x n) (hr : regOk r) (hpc : 0 ≤ pc ∧ pc ≤ 1000000) (hk : ¬ brkP V.length c (r n.toNat)) :
    Con Tryz.prog 226 [viewV b base size, sV bs, insV c x n] (ptc bs 181 (stC pc r m) :: Tryz.memH b (pre ++ V ++ post) :: L)
      (Is (outV (outF c x n)) (ptc bs 181 (stC (pcF pc r c x n) (regF V r c x n) (modF m c)) :: Tryz.memH b (pre ++ memF V r c x n ++ post) :: L)) := by
  obtain ⟨c0, c1, x0, x1, n0, n1, n2, n3, n4⟩ := hm
  have hx8 : 0 ≤ x ∧ x < 8 := ⟨by omega, by omega⟩
  have hrx := hr x.toNat
  have hrv : I64 (r x.toNat) := ⟨by omega, by omega⟩
  have cc : c = 0 ∨ c = 1 ∨ (2 ≤ c ∧ c ≤ 6) ∨ c = 7 ∨ c = 8 ∨ c = 9 ∨ c = 10 ∨ (11 ≤ c ∧ c ≤ 13) ∨ c = 14 ∨ c = 15 := by omega
  have hrn := hr n.toNat
  have hnk : r n.toNat = ((r n.toNat).toNat : Int) := by omega
  rcases cc with rfl | rfl | hc | rfl | rfl | rfl | rfl | hc | rfl | rfl
  · exact Tryz.do0 bs b base size pc m x n r _
  · exact Tryz.do1 bs b base size pc m x n r _ hx8 hpc
  · have e1 : outF c x n = (1, 0, 0, 0) := by unfold outF; rw [if_neg (by omega), if_neg (by omega), if_neg (by omega)]
    have e2 : pcF pc r c x n = pc + 4 := by unfold pcF; rw [if_neg (by omega), if_neg (by unfold goesP; omega)]
    have e3 : regF V r c x n = upd r x.toNat (madeF c (r x.toNat) (r n.toNat)) := by unfold regF; rw [if_neg (by omega), if_pos hc]
    have e4 : modF m c = m := by unfold modF; rw [if_neg (by omega), if_neg (by omega)]
    have e5 : memF V r c x n = V := by unfold memF; rw [if_neg (by omega), if_neg (by omega)]
    rw [e1, e2, e3, e4, e5]
    exact Tryz.do2 bs b base size pc m c x n r _ hx8 ⟨by omega, by omega⟩ hr hpc (by omega)
  · have hk' : 0 ≤ r n.toNat ∧ r n.toNat + 1 ≤ V.length := Classical.not_not.1 fun h => hk ⟨by omega, by omega, h⟩
    exact Tryz.doAcc bs b _ _ base size pc m 7 x n r _ L hx8 hpc (by omega) fun L' => Tryz.accRead1 bs b pre V post base size pc m x n (r n.toNat).toNat r L' hb hs hx hx8 ⟨by omega, by omega⟩ hnk (by omega)
  · have hk' : 0 ≤ r n.toNat ∧ r n.toNat + 1 ≤ V.length := Classical.not_not.1 fun h => hk ⟨by omega, by omega, h⟩
    exact Tryz.doAcc bs b _ _ base size pc m 8 x n r _ L hx8 hpc (by omega) fun L' => Tryz.accWrite1 bs b pre V post base size pc m x n (r n.toNat).toNat r L' hb hs hx hx8 ⟨by omega, by omega⟩ hrv hnk (by omega)
  · have hk' : 0 ≤ r n.toNat ∧ r n.toNat + 2 ≤ V.length := Classical.not_not.1 fun h => hk ⟨by omega, by omega, h⟩
    exact Tryz.doAcc bs b _ _ base size pc m 9 x n r _ L hx8 hpc (by omega) fun L' => Tryz.accRead2 bs b pre V post base size pc m x n (r n.toNat).toNat r L' hb hs hx hx8 ⟨by omega, by omega⟩ hnk (by omega)
  · have hk' : 0 ≤ r n.toNat ∧ r n.toNat + 2 ≤ V.length := Classical.not_not.1 fun h => hk ⟨by omega, by omega, h⟩
    exact Tryz.doAcc bs b _ _ base size pc m 10 x n r _ L hx8 hpc (by omega) fun L' => Tryz.accWrite2 bs b pre V post base size pc m x n (r n.toNat).toNat r L' hb hs hx hx8 ⟨by omega, by omega⟩ hrv hnk (by omega)
  · have e1 : outF c x n = (1, 0, 0, 0) := by unfold outF; rw [if_neg (by omega), if_neg (by omega), if_neg (by omega)]
    have e3 : regF V r c x n = r := by unfold regF; rw [if_neg (by omega), if_neg (by omega), if_neg (by omega), if_neg (by omega)]
    have e4 : modF m c = m := by unfold modF; rw [if_neg (by omega), if_neg (by omega)]
    have e5 : memF V r c x n = V := by unfold memF; rw [if_neg (by omega), if_neg (by omega)]
    rw [e1, e3, e4, e5]
    by_cases hg : goesP c (r x.toNat) (r 0)
    · have e2 : pcF pc r c x n = n := by unfold pcF; rw [if_neg (by omega), if_pos hg]
      rw [e2]
      exact Tryz.doJump bs b base size pc m c x n r _ hx8 (by omega) hg
    · have e2 : pcF pc r c x n = pc + 4 := by unfold pcF; rw [if_neg (by omega), if_neg hg]
      rw [e2]
      exact Tryz.doStay bs b base size pc m c x n r _ hx8 hpc (by unfold goesP at hg; omega) hg
  · exact Tryz.do14 bs b base size pc m x n r _ hx8 hpc
  · exact Tryz.do15 bs b base size pc m x n r _ hx8 hpc
theorem Tryz.doNo (bs b : Nat) (base size pc m c x n : Int) (r : Nat → Int) (L : List HP) (hb : 0 ≤ base ∧ base ≤ 16384) (hs : 0 ≤ size ∧ size ≤ 16384)
    (hm : mayI c x n) (hr : regOk r) (hk : brkP size c (r n.toNat)) :
    Con Tryz.prog 226 [viewV b base size, sV bs, insV c x n] (ptc bs 181 (stC pc r m) :: L) (Is (outV (5, 0, 0, 6)) (ptc bs 181 (stC pc r m) :: L)) := by
  obtain ⟨c0, c1, x0, x1, n0, n1, n2, n3, n4⟩ := hm
  obtain ⟨k1, k2, k3⟩ := hk
  have hrx := hr x.toNat
  have hrv : I64 (r x.toNat) := ⟨by omega, by omega⟩
  have cc : c = 7 ∨ c = 9 ∨ c = 8 ∨ c = 10 := by omega
  rcases cc with rfl | rfl | rfl | rfl
  · exact Tryz.doAccNo bs b base size pc m 7 x n r _ (by omega) fun L' => Tryz.accReadNo bs b base size pc m 7 x n r L' hb hs (by omega) ⟨by omega, by omega⟩ ⟨by omega, by omega⟩ k3
  · exact Tryz.doAccNo bs b base size pc m 9 x n r _ (by omega) fun L' => Tryz.accReadNo bs b base size pc m 9 x n r L' hb hs (by omega) ⟨by omega, by omega⟩ ⟨by omega, by omega⟩ k3
  · exact Tryz.doAccNo bs b base size pc m 8 x n r _ (by omega) fun L' => Tryz.accWriteNo bs b base size pc m 8 x n r L' hb hs (by omega) ⟨by omega, by omega⟩ ⟨by omega, by omega⟩ hrv k3
  · exact Tryz.doAccNo bs b base size pc m 10 x n r _ (by omega) fun L' => Tryz.accWriteNo bs b base size pc m 10 x n r L' hb hs (by omega) ⟨by omega, by omega⟩ ⟨by omega, by omega⟩ hrv k3
end Go.Proofs
