/- The processor: what instructions do: contracts. -/
import Derived.Test.YtdjpcfaidgofoaaGreatCpu
set_option linter.all false
namespace Go.Proofs
open Go.Eng
set_option linter.unusedVariables false
set_option maxRecDepth 100000
set_option maxHeartbeats 2000000
abbrev regOk (r : Nat → Int) : Prop := ∀ i, 0 ≤ r i ∧ r i ≤ 65535
theorem Tryz.cpuWord (n : Int) (L : List HP) (h : I64 n) : Con Tryz.prog 223 [i64W n] L (Is (i64W (n % 65536)) L) := by
  refine con_of Tryz.tysOk Tryz.func223 rfl rfl ?_
  conv => whnf
  repeat' ((with_reducible refine Bt.low16 ?_ ?_); (focus (first | assumption | omega)); conv => whnf)
  all_goals (refine Is.ent ?_ ?_; (focus (exact Ent.rfl)); (exact Is.rfl))
/-- what two registers make -/
def madeF (c x y : Int) : Int := if c = 3 then (x + y) % 65536 else if c = 4 then (x - y) % 65536 else if c = 5 then bits .and .i64 x y else if c = 6 then bits .xor .i64 x y else y
theorem Tryz.reckon (c x y : Int) (L : List HP) (hx : 0 ≤ x ∧ x ≤ 65535) (hy : 0 ≤ y ∧ y ≤ 65535) : Con Tryz.prog 251 [u8W c, i64W x, i64W y] L (Is (i64W (madeF c x y)) L) := by
  by_cases h3 : c = 3
  · subst h3
    refine con_of Tryz.tysOk Tryz.func251 rfl rfl ?_
    conv => whnf
    repeat' (first
      | ((with_reducible refine Br.dt ?_ ?_); (focus (first | assumption | omega)); conv => whnf)
      | ((with_reducible refine Ar.i64 ?_ ?_); (focus omega); conv => whnf)
      | ((with_reducible refine Cl.is (Tryz.cpuWord _ _ ⟨by omega, by omega⟩) ?_); conv => whnf))
    all_goals (refine Is.ent ?_ ?_; (focus (exact Ent.rfl)); (exact Is.rfl))
  · by_cases h4 : c = 4
    · subst h4
      refine con_of Tryz.tysOk Tryz.func251 rfl rfl ?_
      conv => whnf
      repeat' (first
        | (first | ((with_reducible refine Br.dt ?_ ?_); (focus (first | assumption | omega)); conv => whnf) | ((with_reducible refine Br.df ?_ ?_); (focus (first | assumption | omega)); conv => whnf))
        | ((with_reducible refine Ar.i64 ?_ ?_); (focus omega); conv => whnf)
        | ((with_reducible refine Cl.is (Tryz.cpuWord _ _ ⟨by omega, by omega⟩) ?_); conv => whnf))
      all_goals (refine Is.ent ?_ ?_; (focus (exact Ent.rfl)); (exact Is.rfl))
    · by_cases h5 : c = 5
      · subst h5
        refine con_of Tryz.tysOk Tryz.func251 rfl rfl ?_
        conv => whnf
        repeat' (first
          | (first | ((with_reducible refine Br.dt ?_ ?_); (focus (first | assumption | omega)); conv => whnf) | ((with_reducible refine Br.df ?_ ?_); (focus (first | assumption | omega)); conv => whnf))
          | ((with_reducible refine Bt.raw ?_); conv => whnf))
        all_goals (refine Is.ent ?_ ?_; (focus (exact Ent.rfl)); (exact Is.rfl))
      · by_cases h6 : c = 6
        · subst h6
          refine con_of Tryz.tysOk Tryz.func251 rfl rfl ?_
          conv => whnf
          repeat' (first
            | (first | ((with_reducible refine Br.dt ?_ ?_); (focus (first | assumption | omega)); conv => whnf) | ((with_reducible refine Br.df ?_ ?_); (focus (first | assumption | omega)); conv => whnf))
            | ((with_reducible refine Bt.raw ?_); conv => whnf))
          all_goals (refine Is.ent ?_ ?_; (focus (exact Ent.rfl)); (exact Is.rfl))
        · have e : madeF c x y = y := by unfold madeF; rw [if_neg h3, if_neg h4, if_neg h5, if_neg h6]
          rw [e]
          refine con_of Tryz.tysOk Tryz.func251 rfl rfl ?_
          conv => whnf
          repeat' ((with_reducible refine Br.df ?_ ?_); (focus (first | assumption | omega)); conv => whnf)
          all_goals (refine Is.ent ?_ ?_; (focus (exact Ent.rfl)); (exact Is.rfl))
/-- does an instruction go elsewhere? -/
abbrev goesP (c : Int) (rx r0 : Int) : Prop := c = 11 ∨ (c = 12 ∧ rx = 0) ∨ (c = 13 ∧ rx < r0)
theorem Tryz.goes (bs : Nat) (pc m c n : Int) (x : Int) (r : Nat → Int) (L : List HP) (hx : 0 ≤ x ∧ x < 8) :
    Con Tryz.prog 253 [.pointer (some ⟨bs, 0, none⟩), insV c x n] (ptc bs 181 (stC pc r m) :: L) (Is (.bool (decide (goesP c (r x.toNat) (r (Int.toNat 0))))) (ptc bs 181 (stC pc r m) :: L)) := by
  refine con_of Tryz.tysOk Tryz.func253 rfl rfl ?_
  conv => whnf
  repeat' (first
    | ((with_reducible refine Nc.go' (fun _ => ?_)); conv => whnf)
    | ((with_reducible refine Ix.arr ?_ ?_); (focus (omega)); conv => whnf)
    | (first | (refine Ld.reg 1 rfl ?_ ?_; (focus (omega)); conv => whnf) | (refine Ld.at 0 rfl rfl ?_; conv => whnf))
    | ((with_reducible refine Dr.by (id := 5) Tryz.tysOk rfl [(0, 0), (1, 0), (3, 0), (4, 0), (2, 1), (5, 0), (6, 1), (7, 0), (8, 0)] ?_ ?_); (focus kernel_rfl); conv => whnf)
    | ((with_reducible refine Dr.by (id := 7) Tryz.tysOk rfl [(0, 0), (1, 0), (3, 0), (4, 0), (7, 0), (8, 0), (9, 0), (10, 0), (2, 1), (5, 0), (6, 1), (11, 1), (12, 0), (13, 0)] ?_ ?_); (focus kernel_rfl); conv => whnf)
    | ((with_reducible refine Br.ds (fun _ => ?_) (fun _ => ?_) ) <;> (conv => whnf)))
  all_goals (refine Is.ent ?_ ?_; (focus (refine FEnt.ent ?_; (repeat (first | exact FEnt.rfl | (refine FEnt.at 1 rfl ?_; (try simp only [List.eraseIdx_cons_zero, List.eraseIdx_cons_succ, List.eraseIdx_zero, List.tail_cons])) | refine FEnt.drop ?_)); done)); (first | exact Is.tt (by omega) | exact Is.ff (by omega) | (refine Is.dec ?_; omega)))
theorem sAt_mid {V : List UInt8} {k m j : Nat} (h : j < m) : sAt ⟨((V.take (k + m)).drop k).toArray⟩ j = V.getD (k + j) 0 := by
  show ((V.take (k + m)).drop k).getD j 0 = _
  rw [getD_drop, getD_take (by omega)]
theorem mid_size {V : List UInt8} {k m : Nat} (h : k + m ≤ V.length) : ByteArray.size ⟨((V.take (k + m)).drop k).toArray⟩ = m := by
  rw [← size_list]
  simp only [List.length_drop, List.length_take]
  omega
theorem Tryz.viewRead1 (b : Nat) (pre V post : List UInt8) (base size at_ : Int) (k : Nat) (L : List HP) (hb : base = pre.length) (hs : size = V.length) (hx : (pre ++ V ++ post).length ≤ 16384) (hk : at_ = k) (h : k + 1 ≤ V.length) :
    Con Tryz.prog 269 [viewV b base size, i64W at_, i64W 1] (Tryz.memH b (pre ++ V ++ post) :: L) (Is (.tuple #[i64W (bAt V k), i64W 0]) (Tryz.memH b (pre ++ V ++ post) :: L)) := by
  have hv := Tryz.viewText b pre V post base size at_ 1 k 1
  have hz := mid_size h
  have e0 := sAt_mid (V := V) (k := k) (m := 1) (j := 0) (by omega)
  generalize pre ++ V ++ post = X at *
  generalize ByteArray.mk ((V.take (k + 1)).drop k).toArray = s at *
  refine con_of Tryz.tysOk Tryz.func269 rfl rfl ?_
  conv => whnf
  repeat' (first
    | (first | ((with_reducible refine Br.dt ?_ ?_); (focus (first | assumption | omega)); conv => whnf) | ((with_reducible refine Br.ndf ?_ ?_); (focus (first | assumption | omega)); conv => whnf))
    | ((with_reducible refine Ar.i64b ?_); conv => whnf)
    | ((with_reducible refine Nd.mk ?_ ?_); (focus (first | omega | rfl | assumption | (simp; done))); conv => whnf)
    | ((with_reducible refine Nc.go' (fun _ => ?_)); conv => whnf)
    | ((with_reducible refine SIx.mk' ?_ ?_); (focus (omega)); conv => whnf)
    | (refine LdN.at 0 rfl (by first | exact Nat.le_of_ble_eq_true rfl | (simp; done)) ?_; conv => whnf)
    | ((refine Cl.isAt 1 rfl (hv _ hb hs hx hk rfl h) ?_); conv => whnf))
  all_goals exact Is.ent (by (refine FEnt.ent ?_; (repeat (first | exact FEnt.rfl | (refine FEnt.at 1 rfl ?_; (try simp only [List.eraseIdx_cons_zero, List.eraseIdx_cons_succ, List.eraseIdx_zero, List.tail_cons])) | refine FEnt.drop ?_)); done)) (Is.val (by rw [bAt, ← Nat.add_zero k, ← e0]; rfl))
theorem Tryz.viewRead2 (b : Nat) (pre V post : List UInt8) (base size at_ : Int) (k : Nat) (L : List HP) (hb : base = pre.length) (hs : size = V.length) (hx : (pre ++ V ++ post).length ≤ 16384) (hk : at_ = k) (h : k + 2 ≤ V.length) :
    Con Tryz.prog 269 [viewV b base size, i64W at_, i64W 2] (Tryz.memH b (pre ++ V ++ post) :: L) (Is (.tuple #[i64W (bAt V k + 256 * bAt V (k + 1)), i64W 0]) (Tryz.memH b (pre ++ V ++ post) :: L)) := by
  have hv := Tryz.viewText b pre V post base size at_ 2 k 2
  have hz := mid_size h
  have e0 := sAt_mid (V := V) (k := k) (m := 2) (j := 0) (by omega)
  have e1 := sAt_mid (V := V) (k := k) (m := 2) (j := 1) (by omega)
  generalize pre ++ V ++ post = X at *
  generalize ByteArray.mk ((V.take (k + 2)).drop k).toArray = s at *
  refine con_of Tryz.tysOk Tryz.func269 rfl rfl ?_
  conv => whnf
  repeat' (first
    | (first | ((with_reducible refine Br.df ?_ ?_); (focus (first | assumption | omega)); conv => whnf) | ((with_reducible refine Br.ndf ?_ ?_); (focus (first | assumption | omega)); conv => whnf))
    | ((with_reducible refine Ar.i64b ?_); conv => whnf)
    | ((with_reducible refine Nd.mk ?_ ?_); (focus (first | omega | rfl | assumption | (simp; done))); conv => whnf)
    | ((with_reducible refine Nc.go' (fun _ => ?_)); conv => whnf)
    | ((with_reducible refine SIx.mk' ?_ ?_); (focus (omega)); conv => whnf)
    | (refine LdN.at 0 rfl (by first | exact Nat.le_of_ble_eq_true rfl | (simp; done)) ?_; conv => whnf)
    | ((with_reducible refine Dr.by (id := 6) Tryz.tysOk rfl [(0, 0), (1, 0), (2, 0), (3, 0), (4, 0), (5, 0), (6, 1), (7, 0), (8, 0)] ?_ ?_); (focus kernel_rfl); conv => whnf)
    | ((with_reducible refine CD.is (fun M => Tryz.twoB _ _ _) ?_); conv => whnf)
    | ((refine Cl.isAt 1 rfl (hv _ hb hs hx hk rfl h) ?_); conv => whnf))
  all_goals exact Is.ent (by (refine FEnt.ent ?_; (repeat (first | exact FEnt.rfl | (refine FEnt.at 1 rfl ?_; (try simp only [List.eraseIdx_cons_zero, List.eraseIdx_cons_succ, List.eraseIdx_zero, List.tail_cons])) | refine FEnt.drop ?_)); done)) (Is.val (by rw [bAt, bAt, ← e1, ← Nat.add_zero k, ← e0]; rfl))
theorem Tryz.viewReadNo (b : Nat) (base size at_ n : Int) (L : List HP) (hb : 0 ≤ base ∧ base ≤ 16384) (hs : 0 ≤ size ∧ size ≤ 16384) (hn : 0 ≤ n ∧ n ≤ 1000000) (h : ¬ (0 ≤ at_ ∧ at_ + n ≤ size)) :
    Con Tryz.prog 269 [viewV b base size, i64W at_, i64W n] L (Is (.tuple #[i64W 0, i64W 6]) L) := by
  refine con_of Tryz.tysOk Tryz.func269 rfl rfl ?_
  conv => whnf
  repeat' (first
    | ((with_reducible refine Br.ndt ?_ ?_); (focus (first | assumption | omega)); conv => whnf)
    | ((with_reducible refine Nd.mk ?_ ?_); (focus (first | omega | rfl | assumption | (simp; done))); conv => whnf)
    | ((with_reducible refine Nc.go' (fun _ => ?_)); conv => whnf)
    | (refine LdN.at 0 rfl (by first | exact Nat.le_of_ble_eq_true rfl | (simp; done)) ?_; conv => whnf)
    | ((with_reducible refine Cl.is (Tryz.viewTextNo _ _ _ _ _ _ hb hs hn h) ?_); conv => whnf))
  all_goals (refine Is.ent ?_ ?_; (focus (refine FEnt.ent ?_; (repeat (first | exact FEnt.rfl | refine FEnt.drop ?_)); done)); (exact Is.rfl))
abbrev sV (b : Nat) : Value := .pointer (some ⟨b, 0, none⟩)
theorem Tryz.accRead1 (bs b : Nat) (pre V post : List UInt8) (base size pc m x n : Int) (k : Nat) (r : Nat → Int) (L : List HP) (hb : base = pre.length) (hs : size = V.length) (hx : (pre ++ V ++ post).length ≤ 16384)
    (hrx : 0 ≤ x ∧ x < 8) (hrn : 0 ≤ n ∧ n < 8) (hk : r n.toNat = k) (h : k + 1 ≤ V.length) :
    Con Tryz.prog 252 [viewV b base size, sV bs, insV 7 x n] (ptc bs 181 (stC pc r m) :: Tryz.memH b (pre ++ V ++ post) :: L)
      (Is (i64W 0) (ptc bs 181 (stC pc (upd r x.toNat (bAt V k)) m) :: Tryz.memH b (pre ++ V ++ post) :: L)) := by
  have hv := Tryz.viewRead1 b pre V post base size (r n.toNat) k
  generalize pre ++ V ++ post = X at *
  refine con_of Tryz.tysOk Tryz.func252 rfl rfl ?_
  conv => whnf
  repeat' (first
    | (first | ((with_reducible refine Br.ff ?_); conv => whnf) | ((with_reducible refine Br.dt ?_ ?_); (focus (first | assumption | omega)); conv => whnf) | ((with_reducible refine Br.df ?_ ?_); (focus (first | assumption | omega)); conv => whnf))
    | ((with_reducible refine Nd.mk ?_ ?_); (focus (first | omega | rfl | assumption | (simp; done))); conv => whnf)
    | ((with_reducible refine Nc.go' (fun _ => ?_)); conv => whnf)
    | ((with_reducible refine Ix.arr ?_ ?_); (focus (omega)); conv => whnf)
    | (first | (refine Ld.reg 2 rfl ?_ ?_; (focus (omega)); conv => whnf) | (refine Ld.at 0 rfl rfl ?_; conv => whnf))
    | (refine LdN.at 1 rfl (by first | exact Nat.le_of_ble_eq_true rfl | (simp; done)) ?_; conv => whnf)
    | (refine St.reg 2 rfl ?_ ?_; (focus (omega)); conv => whnf)
    | ((with_reducible refine Dr.by (id := 4) Tryz.tysOk rfl [(0, 0), (1, 0), (3, 0), (4, 0), (2, 1), (5, 0), (6, 1), (7, 0)] ?_ ?_); (focus kernel_rfl); conv => whnf)
    | ((with_reducible refine Dr.by (id := 9) Tryz.tysOk rfl [(0, 0), (1, 0), (3, 0), (4, 0), (5, 0), (2, 1), (6, 0), (7, 3)] ?_ ?_); (focus kernel_rfl); conv => whnf)
    | ((refine Cl.isAt 3 rfl (hv _ hb hs hx hk h) ?_); conv => whnf))
  all_goals (refine Is.ent ?_ ?_; (focus (refine FEnt.ent ?_; (repeat (first | exact FEnt.rfl | (refine FEnt.at 2 rfl ?_; (try simp only [List.eraseIdx_cons_zero, List.eraseIdx_cons_succ, List.eraseIdx_zero, List.tail_cons])) | refine FEnt.drop ?_)); done)); (exact Is.rfl))
theorem Tryz.accRead2 (bs b : Nat) (pre V post : List UInt8) (base size pc m x n : Int) (k : Nat) (r : Nat → Int) (L : List HP) (hb : base = pre.length) (hs : size = V.length) (hx : (pre ++ V ++ post).length ≤ 16384)
    (hrx : 0 ≤ x ∧ x < 8) (hrn : 0 ≤ n ∧ n < 8) (hk : r n.toNat = k) (h : k + 2 ≤ V.length) :
    Con Tryz.prog 252 [viewV b base size, sV bs, insV 9 x n] (ptc bs 181 (stC pc r m) :: Tryz.memH b (pre ++ V ++ post) :: L)
      (Is (i64W 0) (ptc bs 181 (stC pc (upd r x.toNat (bAt V k + 256 * bAt V (k + 1))) m) :: Tryz.memH b (pre ++ V ++ post) :: L)) := by
  have hv := Tryz.viewRead2 b pre V post base size (r n.toNat) k
  generalize pre ++ V ++ post = X at *
  refine con_of Tryz.tysOk Tryz.func252 rfl rfl ?_
  conv => whnf
  repeat' (first
    | (first | ((with_reducible refine Br.tt ?_); conv => whnf) | ((with_reducible refine Br.ff ?_); conv => whnf) | ((with_reducible refine Br.dt ?_ ?_); (focus (first | assumption | omega)); conv => whnf) | ((with_reducible refine Br.df ?_ ?_); (focus (first | assumption | omega)); conv => whnf))
    | ((with_reducible refine Nd.mk ?_ ?_); (focus (first | omega | rfl | assumption | (simp; done))); conv => whnf)
    | ((with_reducible refine Nc.go' (fun _ => ?_)); conv => whnf)
    | ((with_reducible refine Ix.arr ?_ ?_); (focus (omega)); conv => whnf)
    | (first | (refine Ld.reg 2 rfl ?_ ?_; (focus (omega)); conv => whnf) | (refine Ld.at 0 rfl rfl ?_; conv => whnf))
    | (refine LdN.at 1 rfl (by first | exact Nat.le_of_ble_eq_true rfl | (simp; done)) ?_; conv => whnf)
    | (refine St.reg 2 rfl ?_ ?_; (focus (omega)); conv => whnf)
    | ((with_reducible refine Dr.by (id := 4) Tryz.tysOk rfl [(0, 0), (1, 0), (3, 0), (4, 0), (2, 1), (5, 0), (6, 1), (7, 0)] ?_ ?_); (focus kernel_rfl); conv => whnf)
    | ((with_reducible refine Dr.by (id := 9) Tryz.tysOk rfl [(0, 0), (1, 0), (3, 0), (4, 0), (5, 0), (2, 1), (6, 0), (7, 3)] ?_ ?_); (focus kernel_rfl); conv => whnf)
    | ((refine Cl.isAt 3 rfl (hv _ hb hs hx hk h) ?_); conv => whnf))
  all_goals (refine Is.ent ?_ ?_; (focus (refine FEnt.ent ?_; (repeat (first | exact FEnt.rfl | (refine FEnt.at 2 rfl ?_; (try simp only [List.eraseIdx_cons_zero, List.eraseIdx_cons_succ, List.eraseIdx_zero, List.tail_cons])) | refine FEnt.drop ?_)); done)); (exact Is.rfl))
theorem Tryz.accReadNo (bs b : Nat) (base size pc m c x n : Int) (r : Nat → Int) (L : List HP) (hb : 0 ≤ base ∧ base ≤ 16384) (hs : 0 ≤ size ∧ size ≤ 16384)
    (hc : c = 7 ∨ c = 9) (hrx : 0 ≤ x ∧ x < 8) (hrn : 0 ≤ n ∧ n < 8) (h : ¬ (0 ≤ r n.toNat ∧ r n.toNat + (if c = 9 then 2 else 1) ≤ size)) :
    Con Tryz.prog 252 [viewV b base size, sV bs, insV c x n] (ptc bs 181 (stC pc r m) :: L) (Is (i64W 6) (ptc bs 181 (stC pc r m) :: L)) := by
  rcases hc with rfl | rfl
  · rw [if_neg (by omega)] at h
    refine con_of Tryz.tysOk Tryz.func252 rfl rfl ?_
    conv => whnf
    repeat' (first
      | (first | ((with_reducible refine Br.ff ?_); conv => whnf) | ((with_reducible refine Br.df ?_ ?_); (focus (first | assumption | omega)); conv => whnf))
      | ((with_reducible refine Nd.mk ?_ ?_); (focus (first | omega | rfl | assumption | (simp; done))); conv => whnf)
      | ((with_reducible refine Nc.go' (fun _ => ?_)); conv => whnf)
      | ((with_reducible refine Ix.arr ?_ ?_); (focus (omega)); conv => whnf)
      | (first | (refine Ld.reg 2 rfl ?_ ?_; (focus (omega)); conv => whnf) | (refine Ld.at 0 rfl rfl ?_; conv => whnf))
      | (refine LdN.at 1 rfl (by first | exact Nat.le_of_ble_eq_true rfl | (simp; done)) ?_; conv => whnf)
      | ((with_reducible refine Dr.by (id := 4) Tryz.tysOk rfl [(0, 0), (1, 0), (3, 0), (4, 0), (2, 1), (5, 0), (6, 1), (7, 0)] ?_ ?_); (focus kernel_rfl); conv => whnf)
      | ((with_reducible refine Cl.is (Tryz.viewReadNo _ _ _ _ _ _ hb hs ⟨by omega, by omega⟩ h) ?_); conv => whnf))
    all_goals (refine Is.ent ?_ ?_; (focus (refine FEnt.ent ?_; (repeat (first | exact FEnt.rfl | (refine FEnt.at 2 rfl ?_; (try simp only [List.eraseIdx_cons_zero, List.eraseIdx_cons_succ, List.eraseIdx_zero, List.tail_cons])) | refine FEnt.drop ?_)); done)); (exact Is.rfl))
  · rw [if_pos rfl] at h
    refine con_of Tryz.tysOk Tryz.func252 rfl rfl ?_
    conv => whnf
    repeat' (first
      | (first | ((with_reducible refine Br.tt ?_); conv => whnf) | ((with_reducible refine Br.ff ?_); conv => whnf) | ((with_reducible refine Br.dt ?_ ?_); (focus (first | assumption | omega)); conv => whnf) | ((with_reducible refine Br.df ?_ ?_); (focus (first | assumption | omega)); conv => whnf))
      | ((with_reducible refine Nd.mk ?_ ?_); (focus (first | omega | rfl | assumption | (simp; done))); conv => whnf)
      | ((with_reducible refine Nc.go' (fun _ => ?_)); conv => whnf)
      | ((with_reducible refine Ix.arr ?_ ?_); (focus (omega)); conv => whnf)
      | (first | (refine Ld.reg 2 rfl ?_ ?_; (focus (omega)); conv => whnf) | (refine Ld.at 0 rfl rfl ?_; conv => whnf))
      | (refine LdN.at 1 rfl (by first | exact Nat.le_of_ble_eq_true rfl | (simp; done)) ?_; conv => whnf)
      | ((with_reducible refine Dr.by (id := 4) Tryz.tysOk rfl [(0, 0), (1, 0), (3, 0), (4, 0), (2, 1), (5, 0), (6, 1), (7, 0)] ?_ ?_); (focus kernel_rfl); conv => whnf)
      | ((with_reducible refine Cl.is (Tryz.viewReadNo _ _ _ _ _ _ hb hs ⟨by omega, by omega⟩ h) ?_); conv => whnf))
    all_goals (refine Is.ent ?_ ?_; (focus (refine FEnt.ent ?_; (repeat (first | exact FEnt.rfl | (refine FEnt.at 2 rfl ?_; (try simp only [List.eraseIdx_cons_zero, List.eraseIdx_cons_succ, List.eraseIdx_zero, List.tail_cons])) | refine FEnt.drop ?_)); done)); (exact Is.rfl))
theorem put1 (v : Int) : ((ByteArray.mk (putB v).toArray).extract 0 1).data.toList = [u8of v] := by rw [extract_list]; rfl
theorem put2 (v : Int) : ((ByteArray.mk (putB v).toArray).extract 0 2).data.toList = putB v := by rw [extract_list]; rfl
theorem put1_size (v : Int) : ((ByteArray.mk (putB v).toArray).extract 0 1).size = 1 := by rw [← size_list, put1]; rfl
theorem put2_size (v : Int) : ((ByteArray.mk (putB v).toArray).extract 0 2).size = 2 := by rw [← size_list, put2]; rfl
theorem putB_size (v : Int) : (ByteArray.mk (putB v).toArray).size = 2 := rfl
theorem Tryz.accWrite1 (bs b : Nat) (pre V post : List UInt8) (base size pc m x n : Int) (k : Nat) (r : Nat → Int) (L : List HP) (hb : base = pre.length) (hs : size = V.length) (hx : (pre ++ V ++ post).length ≤ 16384)
    (hrx : 0 ≤ x ∧ x < 8) (hrn : 0 ≤ n ∧ n < 8) (hrv : I64 (r x.toNat)) (hk : r n.toNat = k) (h : k + 1 ≤ V.length) :
    Con Tryz.prog 252 [viewV b base size, sV bs, insV 8 x n] (ptc bs 181 (stC pc r m) :: Tryz.memH b (pre ++ V ++ post) :: L)
      (Is (i64W 0) (ptc bs 181 (stC pc r m) :: Tryz.memH b (pre ++ lay V k [u8of (r x.toNat)] ++ post) :: L)) := by
  have h1 := put1_size (r x.toNat)
  have h2 := putB_size (r x.toNat)
  have hv := Tryz.viewPut b pre V post base size (r n.toNat) ((ByteArray.mk (putB (r x.toNat)).toArray).extract 0 1) k
  rw [put1] at hv
  generalize pre ++ V ++ post = X at *
  generalize pre ++ lay V k [u8of (r x.toNat)] ++ post = Y at *
  refine con_of Tryz.tysOk Tryz.func252 rfl rfl ?_
  conv => whnf
  repeat' (first
    | (first | ((with_reducible refine Br.tt ?_); conv => whnf) | ((with_reducible refine Br.ff ?_); conv => whnf) | ((with_reducible refine Br.dt ?_ ?_); (focus (first | assumption | omega)); conv => whnf) | ((with_reducible refine Br.df ?_ ?_); (focus (first | assumption | omega)); conv => whnf))
    | ((with_reducible refine Nc.go' (fun _ => ?_)); conv => whnf)
    | ((with_reducible refine Ix.arr ?_ ?_); (focus (omega)); conv => whnf)
    | ((with_reducible refine SubS.pre ?_ ?_); (focus (omega)); conv => whnf)
    | (first | (refine Ld.reg 2 rfl ?_ ?_; (focus (omega)); conv => whnf) | (refine Ld.at 0 rfl rfl ?_; conv => whnf))
    | (refine LdN.at 1 rfl (by first | exact Nat.le_of_ble_eq_true rfl | (simp; done)) ?_; conv => whnf)
    | ((with_reducible refine Dr.by (id := 4) Tryz.tysOk rfl [(0, 0), (1, 0), (3, 0), (4, 0), (2, 1), (5, 0), (6, 1), (7, 0)] ?_ ?_); (focus kernel_rfl); conv => whnf)
    | ((with_reducible refine Dr.by (id := 6) Tryz.tysOk rfl [(1, 0), (2, 0), (3, 0), (5, 0), (6, 0), (10, 0), (0, 1), (4, 1), (7, 0), (8, 1), (9, 1), (11, 0), (12, 3), (13, 0)] ?_ ?_); (focus kernel_rfl); conv => whnf)
    | ((with_reducible refine CD.is (fun M => Tryz.put _ hrv _) ?_); conv => whnf)
    | ((refine Cl.isAt 3 rfl (hv _ hb hs hx hk (by omega)) ?_); conv => whnf))
  all_goals (refine Is.ent ?_ ?_; (focus (refine FEnt.ent ?_; (repeat (first | exact FEnt.rfl | (refine FEnt.at 2 rfl ?_; (try simp only [List.eraseIdx_cons_zero, List.eraseIdx_cons_succ, List.eraseIdx_zero, List.tail_cons])) | refine FEnt.drop ?_)); done)); (exact Is.rfl))
theorem Tryz.accWrite2 (bs b : Nat) (pre V post : List UInt8) (base size pc m x n : Int) (k : Nat) (r : Nat → Int) (L : List HP) (hb : base = pre.length) (hs : size = V.length) (hx : (pre ++ V ++ post).length ≤ 16384)
    (hrx : 0 ≤ x ∧ x < 8) (hrn : 0 ≤ n ∧ n < 8) (hrv : I64 (r x.toNat)) (hk : r n.toNat = k) (h : k + 2 ≤ V.length) :
    Con Tryz.prog 252 [viewV b base size, sV bs, insV 10 x n] (ptc bs 181 (stC pc r m) :: Tryz.memH b (pre ++ V ++ post) :: L)
      (Is (i64W 0) (ptc bs 181 (stC pc r m) :: Tryz.memH b (pre ++ lay V k (putB (r x.toNat)) ++ post) :: L)) := by
  have h1 := put2_size (r x.toNat)
  have h2 := putB_size (r x.toNat)
  have hv := Tryz.viewPut b pre V post base size (r n.toNat) ((ByteArray.mk (putB (r x.toNat)).toArray).extract 0 2) k
  rw [put2] at hv
  generalize pre ++ V ++ post = X at *
  generalize pre ++ lay V k (putB (r x.toNat)) ++ post = Y at *
  refine con_of Tryz.tysOk Tryz.func252 rfl rfl ?_
  conv => whnf
  repeat' (first
    | (first | ((with_reducible refine Br.ff ?_); conv => whnf) | ((with_reducible refine Br.dt ?_ ?_); (focus (first | assumption | omega)); conv => whnf) | ((with_reducible refine Br.df ?_ ?_); (focus (first | assumption | omega)); conv => whnf))
    | ((with_reducible refine Nc.go' (fun _ => ?_)); conv => whnf)
    | ((with_reducible refine Ix.arr ?_ ?_); (focus (omega)); conv => whnf)
    | ((with_reducible refine SubS.pre ?_ ?_); (focus (omega)); conv => whnf)
    | (first | (refine Ld.reg 2 rfl ?_ ?_; (focus (omega)); conv => whnf) | (refine Ld.at 0 rfl rfl ?_; conv => whnf))
    | (refine LdN.at 1 rfl (by first | exact Nat.le_of_ble_eq_true rfl | (simp; done)) ?_; conv => whnf)
    | ((with_reducible refine Dr.by (id := 4) Tryz.tysOk rfl [(0, 0), (1, 0), (3, 0), (4, 0), (2, 1), (5, 0), (6, 1), (7, 0)] ?_ ?_); (focus kernel_rfl); conv => whnf)
    | ((with_reducible refine Dr.by (id := 6) Tryz.tysOk rfl [(1, 0), (2, 0), (3, 0), (5, 0), (6, 0), (10, 0), (0, 1), (4, 1), (7, 0), (8, 1), (9, 1), (11, 0), (12, 3), (13, 0)] ?_ ?_); (focus kernel_rfl); conv => whnf)
    | ((with_reducible refine CD.is (fun M => Tryz.put _ hrv _) ?_); conv => whnf)
    | ((refine Cl.isAt 3 rfl (hv _ hb hs hx hk (by omega)) ?_); conv => whnf))
  all_goals (refine Is.ent ?_ ?_; (focus (refine FEnt.ent ?_; (repeat (first | exact FEnt.rfl | (refine FEnt.at 2 rfl ?_; (try simp only [List.eraseIdx_cons_zero, List.eraseIdx_cons_succ, List.eraseIdx_zero, List.tail_cons])) | refine FEnt.drop ?_)); done)); (exact Is.rfl))
theorem Tryz.accWriteNo (bs b : Nat) (base size pc m c x n : Int) (r : Nat → Int) (L : List HP) (hb : 0 ≤ base ∧ base ≤ 16384) (hs : 0 ≤ size ∧ size ≤ 16384)
    (hc : c = 8 ∨ c = 10) (hrx : 0 ≤ x ∧ x < 8) (hrn : 0 ≤ n ∧ n < 8) (hrv : I64 (r x.toNat)) (h : ¬ (0 ≤ r n.toNat ∧ r n.toNat + (if c = 10 then 2 else 1) ≤ size)) :
    Con Tryz.prog 252 [viewV b base size, sV bs, insV c x n] (ptc bs 181 (stC pc r m) :: L) (Is (i64W 6) (ptc bs 181 (stC pc r m) :: L)) := by
  have h1 := put1_size (r x.toNat)
  have h2 := put2_size (r x.toNat)
  have h3 := putB_size (r x.toNat)
  rcases hc with rfl | rfl
  · rw [if_neg (by omega)] at h
    refine con_of Tryz.tysOk Tryz.func252 rfl rfl ?_
    conv => whnf
    repeat' (first
      | (first | ((with_reducible refine Br.tt ?_); conv => whnf) | ((with_reducible refine Br.ff ?_); conv => whnf) | ((with_reducible refine Br.dt ?_ ?_); (focus (first | assumption | omega)); conv => whnf) | ((with_reducible refine Br.df ?_ ?_); (focus (first | assumption | omega)); conv => whnf))
      | ((with_reducible refine Nc.go' (fun _ => ?_)); conv => whnf)
      | ((with_reducible refine Ix.arr ?_ ?_); (focus (omega)); conv => whnf)
      | ((with_reducible refine SubS.pre ?_ ?_); (focus (omega)); conv => whnf)
      | (first | (refine Ld.reg 2 rfl ?_ ?_; (focus (omega)); conv => whnf) | (refine Ld.at 0 rfl rfl ?_; conv => whnf))
      | (refine LdN.at 1 rfl (by first | exact Nat.le_of_ble_eq_true rfl | (simp; done)) ?_; conv => whnf)
      | ((with_reducible refine Dr.by (id := 4) Tryz.tysOk rfl [(0, 0), (1, 0), (3, 0), (4, 0), (2, 1), (5, 0), (6, 1), (7, 0)] ?_ ?_); (focus kernel_rfl); conv => whnf)
      | ((with_reducible refine Dr.by (id := 6) Tryz.tysOk rfl [(1, 0), (2, 0), (3, 0), (5, 0), (6, 0), (10, 0), (0, 1), (4, 1), (7, 0), (8, 1), (9, 1), (11, 0), (12, 3), (13, 0)] ?_ ?_); (focus kernel_rfl); conv => whnf)
      | ((with_reducible refine CD.is (fun M => Tryz.put _ hrv _) ?_); conv => whnf)
      | ((refine Cl.is (Tryz.viewPutNo _ _ _ _ ((ByteArray.mk (putB (r x.toNat)).toArray).extract 0 1) _ hb hs (by omega) (by omega)) ?_); conv => whnf))
    all_goals (refine Is.ent ?_ ?_; (focus (refine FEnt.ent ?_; (repeat (first | exact FEnt.rfl | (refine FEnt.at 2 rfl ?_; (try simp only [List.eraseIdx_cons_zero, List.eraseIdx_cons_succ, List.eraseIdx_zero, List.tail_cons])) | refine FEnt.drop ?_)); done)); (exact Is.rfl))
  · rw [if_pos rfl] at h
    refine con_of Tryz.tysOk Tryz.func252 rfl rfl ?_
    conv => whnf
    repeat' (first
      | (first | ((with_reducible refine Br.ff ?_); conv => whnf) | ((with_reducible refine Br.dt ?_ ?_); (focus (first | assumption | omega)); conv => whnf) | ((with_reducible refine Br.df ?_ ?_); (focus (first | assumption | omega)); conv => whnf))
      | ((with_reducible refine Nc.go' (fun _ => ?_)); conv => whnf)
      | ((with_reducible refine Ix.arr ?_ ?_); (focus (omega)); conv => whnf)
      | ((with_reducible refine SubS.pre ?_ ?_); (focus (omega)); conv => whnf)
      | (first | (refine Ld.reg 2 rfl ?_ ?_; (focus (omega)); conv => whnf) | (refine Ld.at 0 rfl rfl ?_; conv => whnf))
      | (refine LdN.at 1 rfl (by first | exact Nat.le_of_ble_eq_true rfl | (simp; done)) ?_; conv => whnf)
      | ((with_reducible refine Dr.by (id := 4) Tryz.tysOk rfl [(0, 0), (1, 0), (3, 0), (4, 0), (2, 1), (5, 0), (6, 1), (7, 0)] ?_ ?_); (focus kernel_rfl); conv => whnf)
      | ((with_reducible refine Dr.by (id := 6) Tryz.tysOk rfl [(1, 0), (2, 0), (3, 0), (5, 0), (6, 0), (10, 0), (0, 1), (4, 1), (7, 0), (8, 1), (9, 1), (11, 0), (12, 3), (13, 0)] ?_ ?_); (focus kernel_rfl); conv => whnf)
      | ((with_reducible refine CD.is (fun M => Tryz.put _ hrv _) ?_); conv => whnf)
      | ((refine Cl.is (Tryz.viewPutNo _ _ _ _ ((ByteArray.mk (putB (r x.toNat)).toArray).extract 0 2) _ hb hs (by omega) (by omega)) ?_); conv => whnf))
    all_goals (refine Is.ent ?_ ?_; (focus (refine FEnt.ent ?_; (repeat (first | exact FEnt.rfl | (refine FEnt.at 2 rfl ?_; (try simp only [List.eraseIdx_cons_zero, List.eraseIdx_cons_succ, List.eraseIdx_zero, List.tail_cons])) | refine FEnt.drop ?_)); done)); (exact Is.rfl))
end Go.Proofs
