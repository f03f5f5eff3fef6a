/- The partition's steps: contracts. -/
import Derived.Test.YtmkfnpccaipjcaaPart
set_option linter.all false
namespace Go.Proofs
open Go.Eng
set_option linter.unusedVariables false
set_option maxRecDepth 100000
set_option maxHeartbeats 2000000
theorem Try.parState (bp b : Nat) (base size owner : Int) (q : Mch) (L : List HP) : Con Try.prog 22 [pV bp] (ptc bp 79 (parC b base size owner q) :: L) (Is (stO q) (ptc bp 79 (parC b base size owner q) :: L)) := by
  refine con_of Try.tysOk Try.func22 rfl rfl ?_
  conv => whnf
  repeat' (first
    | ((with_reducible refine Br.sn ?_); conv => whnf)
    | ((with_reducible refine Nd.mk ?_ ?_); (focus (first | omega | rfl | assumption | (simp; done))); conv => whnf)
    | ((with_reducible refine Nc.go' (fun _ => ?_)); conv => whnf)
    | (first | (refine LdN.at 0 rfl (by first | exact Nat.le_of_ble_eq_true rfl | (simp; done)) ?_; conv => whnf) | (refine LdN.at 1 rfl (by first | exact Nat.le_of_ble_eq_true rfl | (simp; done)) ?_; conv => whnf))
    | (refine St.at 0 rfl (by first | exact Nat.le_of_ble_eq_true rfl | (simp; done)) rfl ?_; conv => whnf))
  all_goals (refine Is.ent ?_ ?_; (focus (refine FEnt.ent ?_; (repeat (first | exact FEnt.rfl | (refine FEnt.at 1 rfl ?_; (try simp only [List.eraseIdx_cons_zero, List.eraseIdx_cons_succ, List.eraseIdx_zero, List.tail_cons])) | refine FEnt.drop ?_)); done)); (exact Is.rfl))
theorem Try.parStateNil (L : List HP) : Con Try.prog 22 [.pointer none] L (Is (stV 0 (fun _ => 0) 0) L) := by
  refine con_of Try.tysOk Try.func22 rfl rfl ?_
  conv => whnf
  repeat' (first
    | ((with_reducible refine Br.nn ?_); conv => whnf)
    | ((with_reducible refine Nd.mk ?_ ?_); (focus (first | omega | rfl | assumption | (simp; done))); conv => whnf)
    | ((with_reducible refine Nc.go' (fun _ => ?_)); conv => whnf)
    | (refine LdN.at 0 rfl (by first | exact Nat.le_of_ble_eq_true rfl | (simp; done)) ?_; conv => whnf)
    | (refine St.at 0 rfl (by first | exact Nat.le_of_ble_eq_true rfl | (simp; done)) rfl ?_; conv => whnf))
  all_goals (refine Is.ent ?_ ?_; (focus (refine FEnt.ent ?_; (repeat (first | exact FEnt.rfl | refine FEnt.drop ?_)); done)); (exact Is.rfl))
theorem Try.parOwner (bp b : Nat) (base size owner : Int) (q : Mch) (L : List HP) : Con Try.prog 20 [pV bp] (ptc bp 79 (parC b base size owner q) :: L) (Is (i64W owner) (ptc bp 79 (parC b base size owner q) :: L)) := by
  refine con_of Try.tysOk Try.func20 rfl rfl ?_
  conv => whnf
  repeat' (first
    | ((with_reducible refine Br.sn ?_); conv => whnf)
    | (refine Ld.at 0 rfl rfl ?_; conv => whnf))
  all_goals (refine Is.ent ?_ ?_; (focus (exact Ent.rfl)); (exact Is.rfl))
theorem Try.parOwnerNil (L : List HP) : Con Try.prog 20 [.pointer none] L (Is (i64W 0) L) := by
  refine con_of Try.tysOk Try.func20 rfl rfl ?_
  conv => whnf
  repeat' ((with_reducible refine Br.nn ?_); conv => whnf)
  all_goals (refine Is.ent ?_ ?_; (focus (exact Ent.rfl)); (exact Is.rfl))
theorem Try.parText (bp b : Nat) (pre post : List UInt8) (base size owner : Int) (q : Mch) (L : List HP) (hb : base = pre.length) (hs : size = q.V.length) (hx : (pre ++ q.V ++ post).length ≤ 16384) :
    Con Try.prog 21 [pV bp] (ptc bp 79 (parC b base size owner q) :: Try.memH b (pre ++ q.V ++ post) :: L) (Is (.string ⟨q.V.toArray⟩) (ptc bp 79 (parC b base size owner q) :: Try.memH b (pre ++ q.V ++ post) :: L)) := by
  have ht := fun L => Try.cpuText b pre q.V post base size L hb hs hx
  generalize pre ++ q.V ++ post = X at *
  refine con_of Try.tysOk Try.func21 rfl rfl ?_
  conv => whnf
  repeat' (first
    | ((with_reducible refine Br.sn ?_); conv => whnf)
    | (refine LdN.at 0 rfl (by first | exact Nat.le_of_ble_eq_true rfl | (simp; done)) ?_; conv => whnf)
    | ((refine Cl.isAt 1 rfl (ht _) ?_); conv => whnf))
  all_goals (refine Is.ent ?_ ?_; (focus (exact Ent.rfl)); (exact Is.rfl))
theorem Try.parTextNil (L : List HP) : Con Try.prog 21 [.pointer none] L (Is (.string ⟨#[]⟩) L) := by
  refine con_of Try.tysOk Try.func21 rfl rfl ?_
  conv => whnf
  repeat' ((with_reducible refine Br.nn ?_); conv => whnf)
  all_goals (refine Is.ent ?_ ?_; (focus (exact Ent.rfl)); (exact Is.rfl))
theorem Try.parOpenNil (t b : Int) (L : List HP) : Con Try.prog 19 [.pointer none, i64W t, i64W b] L (New markE 73 [] L) := by
  refine con_of Try.tysOk Try.func19 rfl rfl ?_
  conv => whnf
  repeat' ((with_reducible refine Br.nn ?_); conv => whnf)
  all_goals exact New.nil (by (exact Ent.rfl))
theorem Try.parStepNil (f : Fct) (L : List HP) : Con Try.prog 18 [.pointer none, fctV f] L (Is (.tuple #[.slice none 0 0, .bool false]) L) := by
  refine con_of Try.tysOk Try.func18 rfl rfl ?_
  conv => whnf
  repeat' (first
    | ((with_reducible refine Br.nn ?_); conv => whnf)
    | ((with_reducible refine Nc.go' (fun _ => ?_)); conv => whnf))
  all_goals (refine Is.ent ?_ ?_; (focus (refine FEnt.ent ?_; (repeat (first | exact FEnt.rfl | refine FEnt.drop ?_)); done)); (exact Is.rfl))
theorem Try.parForkNil (b : Nat) (L : List HP) : Con Try.prog 16 [.pointer none, pV b] L (Is (.pointer none) L) := by
  refine con_of Try.tysOk Try.func16 rfl rfl ?_
  conv => whnf
  repeat' ((with_reducible refine Br.nn ?_); conv => whnf)
  all_goals (refine Is.ent ?_ ?_; (focus (exact Ent.rfl)); (exact Is.rfl))
theorem Try.parFork (bp b b' : Nat) (base size owner : Int) (q : Mch) (L : List HP) : Con Try.prog 16 [pV bp, pV b'] (ptc bp 79 (parC b base size owner q) :: L)
    (Exs pV (fun n => ptc n 79 (parC b' base size owner q) :: ptc bp 79 (parC b base size owner q) :: L) (fun _ => True)) := by
  refine con_of Try.tysOk Try.func16 rfl rfl ?_
  conv => whnf
  repeat' (first
    | ((with_reducible refine Br.sn ?_); conv => whnf)
    | ((with_reducible refine Nd.mk ?_ ?_); (focus (first | omega | rfl | assumption | (simp; done))); conv => whnf)
    | ((with_reducible refine Nc.go' (fun _ => ?_)); conv => whnf)
    | (refine LdN.at 0 rfl (by first | exact Nat.le_of_ble_eq_true rfl | (simp; done)) ?_; conv => whnf)
    | (refine St.at 0 rfl (by first | exact Nat.le_of_ble_eq_true rfl | (simp; done)) rfl ?_; conv => whnf))
  all_goals exact Exs.of _ (by (exact Ent.rfl)) trivial rfl
/-- its window begins -/
theorem Try.parOpen (bp b : Nat) (pre post : List UInt8) (base size owner t bits : Int) (q : Mch) (L : List HP) (hb : base = pre.length) (hs : size = q.V.length) (hx : (pre ++ q.V ++ post).length ≤ 16384) :
    Con Try.prog 19 [pV bp, i64W t, i64W bits] (ptc bp 79 (parC b base size owner q) :: Try.memH b (pre ++ q.V ++ post) :: L)
      (New markE 73 (opnL q t bits) (ptc bp 79 (parC b base size owner (opnF q)) :: Try.memH b (pre ++ q.V ++ post) :: L)) := by
  have ht := fun L => Try.parText bp b pre post base size owner q L hb hs hx
  have hw := fun L => Try.cpuWake q.pc q.m q.r L
  have e : opnF q = ⟨q.V, q.pc, q.r, if q.m = 1 then 0 else q.m⟩ := rfl
  rw [e]
  generalize (if q.m = 1 then 0 else q.m) = mm at *
  generalize pre ++ q.V ++ post = X at *
  by_cases h0 : bits = 0
  · have e2 : opnL q t bits = [(t, 1, 0, 0, 0, ⟨q.V.toArray⟩)] := if_pos h0
    rw [e2]
    generalize (⟨q.V.toArray⟩ : ByteArray) = S at *
    refine con_of Try.tysOk Try.func19 rfl rfl ?_
    conv => whnf
    repeat' (first
      | (first | ((with_reducible refine Br.sn ?_); conv => whnf) | ((with_reducible refine Br.ndf ?_ ?_); (focus (first | assumption | omega)); conv => whnf))
      | ((with_reducible refine Nd.mk ?_ ?_); (focus (first | omega | rfl | assumption | (simp; done))); conv => whnf)
      | ((with_reducible refine Nc.go' (fun _ => ?_)); conv => whnf)
      | (refine LdN.at 1 rfl (by first | exact Nat.le_of_ble_eq_true rfl | (simp; done)) ?_; conv => whnf)
      | (refine St.at 1 rfl (by first | exact Nat.le_of_ble_eq_true rfl | (simp; done)) rfl ?_; conv => whnf)
      | (first | ((refine Cl.isAt2 0 0 rfl rfl (ht _) ?_); conv => whnf) | ((with_reducible refine Cl.is (hw _) ?_); conv => whnf)))
    all_goals exact New.of rfl (Nat.le_refl _) (fun _ => rfl) (by (refine FEnt.ent ?_; (repeat (first | exact FEnt.rfl | (refine FEnt.lit 0 rfl rfl rfl rfl ?_; (try simp only [List.eraseIdx_cons_zero, List.eraseIdx_cons_succ, List.eraseIdx_zero, List.tail_cons])))); done))
  · have e2 : opnL q t bits = [(t, 1, 0, 0, 0, ⟨q.V.toArray⟩), (t, 2, bits, 0, 0, ⟨#[]⟩)] := if_neg h0
    rw [e2]
    generalize (⟨q.V.toArray⟩ : ByteArray) = S at *
    refine con_of Try.tysOk Try.func19 rfl rfl ?_
    conv => whnf
    repeat' (first
      | (first | ((with_reducible refine Br.sn ?_); conv => whnf) | ((with_reducible refine Br.ndt ?_ ?_); (focus (first | assumption | omega)); conv => whnf))
      | ((with_reducible refine Nd.mk ?_ ?_); (focus (first | omega | rfl | assumption | (simp; done))); conv => whnf)
      | ((with_reducible refine Nc.go' (fun _ => ?_)); conv => whnf)
      | (refine LdN.at 2 rfl (by first | exact Nat.le_of_ble_eq_true rfl | (simp; done)) ?_; conv => whnf)
      | (refine St.at 2 rfl (by first | exact Nat.le_of_ble_eq_true rfl | (simp; done)) rfl ?_; conv => whnf)
      | (first | ((refine Cl.isAt2 0 0 rfl rfl (ht _) ?_); conv => whnf) | ((with_reducible refine Cl.is (hw _) ?_); conv => whnf))
      | ((with_reducible refine (?_ : Sm _ (Builtin.append_ _ _ _) _ _)); ((with_reducible_and_instances apply (Sm.appLit (E := markE) (et := 73) Try.tysOk 1 rfl [(_, _, _, _, _, _)] rfl)); (rotate_left; (focus (exact Rd.ptc 0 rfl [(_, _, _, _, _, _)] rfl)); rotate_right; (focus rfl)); (focus rfl); (focus rfl); (focus rfl); (focus rfl); (focus rfl); (focus rfl); (focus rfl); (focus rfl); (focus ((simp only [List.length_append, List.length_cons, List.length_nil]); omega)); (intro _ _ _ _); conv => whnf)))
    all_goals (rename_i a3 c3 hc3 had3; exact New.of rfl hc3 had3 (by (refine FEnt.ent ?_; (repeat (first | exact FEnt.rfl | (refine FEnt.at 0 rfl ?_; (try simp only [List.eraseIdx_cons_zero, List.eraseIdx_cons_succ, List.eraseIdx_zero, List.tail_cons])) | (refine FEnt.at 1 rfl ?_; (try simp only [List.eraseIdx_cons_zero, List.eraseIdx_cons_succ, List.eraseIdx_zero, List.tail_cons])) | refine FEnt.drop ?_)); done)))
end Go.Proofs
