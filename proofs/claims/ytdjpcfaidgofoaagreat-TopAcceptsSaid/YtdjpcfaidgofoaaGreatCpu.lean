/- The processor: a view of the memory: contracts. -/
import Derived.Test.YtdjpcfaidgofoaaGreatCode
import Derived.Test.YtdjpcfaidgofoaaGreatRefMem
set_option linter.all false
namespace Go.Proofs
open Go.Eng
set_option linter.unusedVariables false
set_option maxRecDepth 100000
set_option maxHeartbeats 2000000
theorem mid_text {pre V post : List UInt8} {k m : Nat} (h : k + m ≤ V.length) : ((pre ++ V ++ post).take (pre.length + k + m)).drop (pre.length + k) = (V.take (k + m)).drop k := by
  rw [List.append_assoc, Nat.add_assoc, List.take_append, List.drop_append, List.take_of_length_le (l := pre) (by omega), List.drop_of_length_le (l := pre) (by omega)]
  rw [show pre.length + (k + m) - pre.length = k + m from by omega, show pre.length + k - pre.length = k from by omega, List.take_append_of_le_length h]
  simp
theorem mid_lay {pre V post ys : List UInt8} {k : Nat} (h : k + ys.length ≤ V.length) : lay (pre ++ V ++ post) (pre.length + k) ys = pre ++ lay V k ys ++ post := by
  unfold lay
  rw [List.append_assoc pre V post, List.take_append, List.drop_append, List.take_of_length_le (l := pre) (by omega), List.drop_of_length_le (l := pre) (by omega)]
  rw [show pre.length + k - pre.length = k from by omega, show pre.length + k + ys.length - pre.length = k + ys.length from by omega, List.take_append_of_le_length (by omega), List.drop_append_of_le_length h]
  simp
/-- a view's value -/
abbrev viewV (b : Nat) (base size : Int) : Value := .agg #[pV b, i64W base, i64W size]
theorem Tryz.viewPlace (b : Nat) (base size at_ n : Int) (L : List HP) (hb : 0 ≤ base ∧ base ≤ 16384) (hs : 0 ≤ size ∧ size ≤ 16384) (hn : 0 ≤ n ∧ n ≤ 1000000) (h : 0 ≤ at_ ∧ at_ + n ≤ size) :
    Con Tryz.prog 249 [viewV b base size, i64W at_, i64W n] L (Is (.tuple #[i64W (base + at_), i64W 0]) L) := by
  refine con_of Tryz.tysOk Tryz.func249 rfl rfl ?_
  conv => whnf
  repeat' (first
    | (first | ((with_reducible refine Br.ff ?_); conv => whnf) | ((with_reducible refine Br.df ?_ ?_); (focus (first | assumption | omega)); conv => whnf))
    | ((with_reducible refine Ar.i64 ?_ ?_); (focus omega); conv => whnf)
    | ((with_reducible refine Nc.go' (fun b => ?_)); conv => whnf)
    | (refine Ld.at 0 rfl rfl ?_; conv => whnf))
  all_goals (refine Is.ent ?_ ?_; (focus (refine FEnt.ent ?_; (repeat (first | exact FEnt.rfl | refine FEnt.drop ?_)); done)); (exact Is.rfl))
theorem Tryz.viewPlaceNo (b : Nat) (base size at_ n : Int) (L : List HP) (hb : 0 ≤ base ∧ base ≤ 16384) (hs : 0 ≤ size ∧ size ≤ 16384) (hn : 0 ≤ n ∧ n ≤ 1000000) (h : ¬ (0 ≤ at_ ∧ at_ + n ≤ size)) :
    Con Tryz.prog 249 [viewV b base size, i64W at_, i64W n] L (Is (.tuple #[i64W 0, i64W 6]) L) := by
  refine con_of Tryz.tysOk Tryz.func249 rfl rfl ?_
  conv => whnf
  repeat' (first
    | (first | ((with_reducible refine Br.tt ?_); conv => whnf) | ((with_reducible refine Br.ff ?_); conv => whnf) | ((with_reducible refine Br.dt ?_ ?_); (focus (first | assumption | omega)); conv => whnf))
    | ((with_reducible refine Ar.i64 ?_ ?_); (focus omega); conv => whnf)
    | ((with_reducible refine Nc.go' (fun b => ?_)); conv => whnf)
    | (refine Ld.at 0 rfl rfl ?_; conv => whnf)
    | ((with_reducible refine Br.ds (fun _ => ?_) (fun _ => ?_) ) <;> (conv => whnf)))
  all_goals (refine Is.ent ?_ ?_; (focus (refine FEnt.ent ?_; (repeat (first | exact FEnt.rfl | refine FEnt.drop ?_)); done)); (exact Is.rfl))
theorem Tryz.viewText (b : Nat) (pre V post : List UInt8) (base size at_ n : Int) (k m : Nat) (L : List HP) (hb : base = pre.length) (hs : size = V.length) (hx : (pre ++ V ++ post).length ≤ 16384) (hk : at_ = k) (hn : n = m) (h : k + m ≤ V.length) :
    Con Tryz.prog 224 [viewV b base size, i64W at_, i64W n] (Tryz.memH b (pre ++ V ++ post) :: L) (Is (.tuple #[.string ⟨((V.take (k + m)).drop k).toArray⟩, i64W 0]) (Tryz.memH b (pre ++ V ++ post) :: L)) := by
  have hxl : (pre ++ V ++ post).length = pre.length + V.length + post.length := by simp only [List.length_append]
  have hm := Tryz.memText b (pre ++ V ++ post) (pre.length + k) m
  rw [mid_text h] at hm
  generalize pre ++ V ++ post = X at *
  subst hb hs hk hn
  refine con_of Tryz.tysOk Tryz.func224 rfl rfl ?_
  conv => whnf
  repeat' (first
    | ((with_reducible refine Br.ndf ?_ ?_); (focus (first | assumption | omega)); conv => whnf)
    | ((with_reducible refine Nd.mk ?_ ?_); (focus (first | omega | rfl | assumption | (simp; done))); conv => whnf)
    | ((with_reducible refine Nc.go' (fun b => ?_)); conv => whnf)
    | (refine Ld.at 0 rfl rfl ?_; conv => whnf)
    | (refine LdN.at 0 rfl (by first | exact Nat.le_of_ble_eq_true rfl | (simp; done)) ?_; conv => whnf)
    | (first | ((with_reducible refine Cl.is (Tryz.viewPlace _ _ _ _ _ _ ⟨by omega, by omega⟩ ⟨by omega, by omega⟩ ⟨by omega, by omega⟩ ⟨by omega, by omega⟩) ?_); conv => whnf) | ((refine Cl.isAt 1 rfl (hm _ _ _ (by omega) (by omega) rfl (by omega)) ?_); conv => whnf)))
  all_goals (refine Is.ent ?_ ?_; (focus (refine FEnt.ent ?_; (repeat (first | exact FEnt.rfl | (refine FEnt.at 1 rfl ?_; (try simp only [List.eraseIdx_cons_zero, List.eraseIdx_cons_succ, List.eraseIdx_zero, List.tail_cons])) | refine FEnt.drop ?_)); done)); (exact Is.rfl))
theorem Tryz.viewTextNo (b : Nat) (base size at_ n : Int) (L : List HP) (hb : 0 ≤ base ∧ base ≤ 16384) (hs : 0 ≤ size ∧ size ≤ 16384) (hn : 0 ≤ n ∧ n ≤ 1000000) (h : ¬ (0 ≤ at_ ∧ at_ + n ≤ size)) :
    Con Tryz.prog 224 [viewV b base size, i64W at_, i64W n] L (Is (.tuple #[.string ByteArray.empty, i64W 6]) L) := by
  refine con_of Tryz.tysOk Tryz.func224 rfl rfl ?_
  conv => whnf
  repeat' (first
    | ((with_reducible refine Br.ndt ?_ ?_); (focus (first | assumption | omega)); conv => whnf)
    | ((with_reducible refine Nd.mk ?_ ?_); (focus (first | omega | rfl | assumption | (simp; done))); conv => whnf)
    | ((with_reducible refine Nc.go' (fun b => ?_)); conv => whnf)
    | (refine LdN.at 0 rfl (by first | exact Nat.le_of_ble_eq_true rfl | (simp; done)) ?_; conv => whnf)
    | ((with_reducible refine Cl.is (Tryz.viewPlaceNo _ _ _ _ _ _ hb hs hn h) ?_); conv => whnf))
  all_goals (refine Is.ent ?_ ?_; (focus (refine FEnt.ent ?_; (repeat (first | exact FEnt.rfl | refine FEnt.drop ?_)); done)); (exact Is.rfl))
theorem Tryz.viewPut (b : Nat) (pre V post : List UInt8) (base size at_ : Int) (s : ByteArray) (k : Nat) (L : List HP) (hb : base = pre.length) (hs : size = V.length) (hx : (pre ++ V ++ post).length ≤ 16384) (hk : at_ = k) (h : k + s.size ≤ V.length) :
    Con Tryz.prog 268 [viewV b base size, i64W at_, .string s] (Tryz.memH b (pre ++ V ++ post) :: L) (Is (i64W 0) (Tryz.memH b (pre ++ lay V k s.data.toList ++ post) :: L)) := by
  have hxl : (pre ++ V ++ post).length = pre.length + V.length + post.length := by simp only [List.length_append]
  have hss := size_list s
  have hm : ∀ L', Con Tryz.prog 74 [pV b, i64V (base + at_), .string s] (Tryz.memH b (pre ++ V ++ post) :: L') (Is (i64V 0) (Tryz.memH b (pre ++ lay V k s.data.toList ++ post) :: L')) := fun L' => by
    rw [← mid_lay (by omega)]
    exact Tryz.memPut b _ (pre.length + k) _ s L' (by omega) (by omega) (by omega)
  generalize pre ++ V ++ post = X at *
  generalize pre ++ lay V k s.data.toList ++ post = Y at *
  subst hb hs hk
  refine con_of Tryz.tysOk Tryz.func268 rfl rfl ?_
  conv => whnf
  repeat' (first
    | (first | ((with_reducible refine Br.ff ?_); conv => whnf) | ((with_reducible refine Br.ndf ?_ ?_); (focus (first | assumption | omega)); conv => whnf))
    | ((with_reducible refine Nd.mk ?_ ?_); (focus (first | omega | rfl | assumption | (simp; done))); conv => whnf)
    | ((with_reducible refine Nc.go' (fun b => ?_)); conv => whnf)
    | (refine Ld.at 0 rfl rfl ?_; conv => whnf)
    | (refine LdN.at 0 rfl (by first | exact Nat.le_of_ble_eq_true rfl | (simp; done)) ?_; conv => whnf)
    | (first | ((with_reducible refine Cl.is (Tryz.viewPlace _ _ _ _ _ _ ⟨by omega, by omega⟩ ⟨by omega, by omega⟩ ⟨by omega, by omega⟩ ⟨by omega, by omega⟩) ?_); conv => whnf) | ((refine Cl.isAt 1 rfl (hm _) ?_); conv => whnf)))
  all_goals (refine Is.ent ?_ ?_; (focus (refine FEnt.ent ?_; (repeat (first | exact FEnt.rfl | (refine FEnt.at 1 rfl ?_; (try simp only [List.eraseIdx_cons_zero, List.eraseIdx_cons_succ, List.eraseIdx_zero, List.tail_cons])) | refine FEnt.drop ?_)); done)); (exact Is.rfl))
theorem Tryz.viewPutNo (b : Nat) (base size at_ : Int) (s : ByteArray) (L : List HP) (hb : 0 ≤ base ∧ base ≤ 16384) (hs : 0 ≤ size ∧ size ≤ 16384) (hn : s.size ≤ 1000000) (h : ¬ (0 ≤ at_ ∧ at_ + s.size ≤ size)) :
    Con Tryz.prog 268 [viewV b base size, i64W at_, .string s] L (Is (i64W 6) L) := by
  refine con_of Tryz.tysOk Tryz.func268 rfl rfl ?_
  conv => whnf
  repeat' (first
    | (first | ((with_reducible refine Br.tt ?_); conv => whnf) | ((with_reducible refine Br.ndt ?_ ?_); (focus (first | assumption | omega)); conv => whnf))
    | ((with_reducible refine Nd.mk ?_ ?_); (focus (first | omega | rfl | assumption | (simp; done))); conv => whnf)
    | ((with_reducible refine Nc.go' (fun b => ?_)); conv => whnf)
    | (refine LdN.at 0 rfl (by first | exact Nat.le_of_ble_eq_true rfl | (simp; done)) ?_; conv => whnf)
    | ((with_reducible refine Cl.is (Tryz.viewPlaceNo _ _ _ _ _ _ hb hs ⟨by omega, by omega⟩ h) ?_); conv => whnf))
  all_goals (refine Is.ent ?_ ?_; (focus (refine FEnt.ent ?_; (repeat (first | exact FEnt.rfl | refine FEnt.drop ?_)); done)); (exact Is.rfl))
end Go.Proofs
