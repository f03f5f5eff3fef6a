/- The partition's steps, and the document's: contracts. -/
import Derived.Test.YtdjpcfaidgofoaaGreatPart
set_option linter.all false
namespace Go.Proofs
open Go.Eng
set_option linter.unusedVariables false
set_option maxRecDepth 100000
set_option maxHeartbeats 2000000
theorem Tryz.parText (bp b : Nat) (pre post : List UInt8) (base size owner : Int) (q : Mch) (L : List HP) (hb : base = pre.length) (hs : size = q.V.length) (hx : (pre ++ q.V ++ post).length ≤ 16384) :
    Con Tryz.prog 175 [pV bp] (ptc bp 183 (parC b base size owner q) :: Tryz.memH b (pre ++ q.V ++ post) :: L) (Is (.string ⟨q.V.toArray⟩) (ptc bp 183 (parC b base size owner q) :: Tryz.memH b (pre ++ q.V ++ post) :: L)) := by
  have ht := fun L => Tryz.cpuText b pre q.V post base size L hb hs hx
  generalize pre ++ q.V ++ post = X at *
  refine con_of Tryz.tysOk Tryz.func175 rfl rfl ?_
  conv => whnf
  repeat' (first
    | ((with_reducible refine Br.sn ?_); conv => whnf)
    | (refine LdN.at 0 rfl (by first | exact Nat.le_of_ble_eq_true rfl | (simp; done)) ?_; conv => whnf)
    | ((refine Cl.isAt 1 rfl (ht _) ?_); conv => whnf))
  all_goals (refine Is.ent ?_ ?_; (focus (exact Ent.rfl)); (exact Is.rfl))
theorem Tryz.parTextNil (L : List HP) : Con Tryz.prog 175 [.pointer none] L (Is (.string ⟨#[]⟩) L) := by
  refine con_of Tryz.tysOk Tryz.func175 rfl rfl ?_
  conv => whnf
  repeat' ((with_reducible refine Br.nn ?_); conv => whnf)
  all_goals (refine Is.ent ?_ ?_; (focus (exact Ent.rfl)); (exact Is.rfl))
theorem Tryz.parOpenNil (t b : Int) (L : List HP) : Con Tryz.prog 145 [.pointer none, i64W t, i64W b] L (New markE 107 [] L) := by
  refine con_of Tryz.tysOk Tryz.func145 rfl rfl ?_
  conv => whnf
  repeat' ((with_reducible refine Br.nn ?_); conv => whnf)
  all_goals exact New.nil (by (exact Ent.rfl))
theorem Tryz.parStepNil (f : Fct) (L : List HP) : Con Tryz.prog 153 [.pointer none, fctV f] L (Is (.tuple #[.slice none 0 0, .bool false]) L) := by
  refine con_of Tryz.tysOk Tryz.func153 rfl rfl ?_
  conv => whnf
  repeat' (first
    | ((with_reducible refine Br.nn ?_); conv => whnf)
    | ((with_reducible refine Nc.go' (fun _ => ?_)); conv => whnf))
  all_goals (refine Is.ent ?_ ?_; (focus (refine FEnt.ent ?_; (repeat (first | exact FEnt.rfl | refine FEnt.drop ?_)); done)); (exact Is.rfl))
/-- its window begins -/
theorem Tryz.parOpen (bp b : Nat) (pre post : List UInt8) (base size owner t bits : Int) (q : Mch) (L : List HP) (hb : base = pre.length) (hs : size = q.V.length) (hx : (pre ++ q.V ++ post).length ≤ 16384) :
    Con Tryz.prog 145 [pV bp, i64W t, i64W bits] (ptc bp 183 (parC b base size owner q) :: Tryz.memH b (pre ++ q.V ++ post) :: L)
      (New markE 107 (opnL q t bits) (ptc bp 183 (parC b base size owner (opnF q)) :: Tryz.memH b (pre ++ q.V ++ post) :: L)) := by
  have ht := fun L => Tryz.parText bp b pre post base size owner q L hb hs hx
  have hw := fun L => Tryz.cpuWake q.pc q.m q.r L
  have e : opnF q = ⟨q.V, q.pc, q.r, if q.m = 1 then 0 else q.m⟩ := rfl
  rw [e]
  generalize (if q.m = 1 then 0 else q.m) = mm at *
  generalize pre ++ q.V ++ post = X at *
  by_cases h0 : bits = 0
  · have e2 : opnL q t bits = [(t, 1, 0, 0, 0, ⟨q.V.toArray⟩)] := if_pos h0
    rw [e2]
    generalize (⟨q.V.toArray⟩ : ByteArray) = S at *
    refine con_of Tryz.tysOk Tryz.func145 rfl rfl ?_
    conv => whnf
    repeat' (first
      | (first | ((with_reducible refine Br.sn ?_); conv => whnf) | ((with_reducible refine Br.ndf ?_ ?_); (focus (first | assumption | omega)); conv => whnf))
      | ((with_reducible refine Nd.mk ?_ ?_); (focus (first | omega | rfl | assumption | (simp; done))); conv => whnf)
      | ((with_reducible refine Nc.go' (fun _ => ?_)); conv => whnf)
      | (refine LdN.at 1 rfl (by first | exact Nat.le_of_ble_eq_true rfl | (simp; done)) ?_; conv => whnf)
      | (refine St.at 1 rfl (by first | exact Nat.le_of_ble_eq_true rfl | (simp; done)) rfl ?_; conv => whnf)
      | (first | ((refine Cl.isAt2 0 0 rfl rfl (ht _) ?_); conv => whnf) | ((with_reducible refine Cl.is (hw _) ?_); conv => whnf)))
    all_goals exact New.of rfl (Nat.le_refl _) (fun _ => rfl) (by (refine FEnt.ent ?_; (repeat (first | exact FEnt.rfl | (refine FEnt.lit 0 rfl rfl rfl rfl ?_; (try simp only [List.eraseIdx_cons_zero, List.eraseIdx_cons_succ, List.eraseIdx_zero, List.tail_cons])))); done))
  · have e2 : opnL q t bits = [(t, 1, 0, 0, 0, ⟨q.V.toArray⟩), (t, 2, bits, 0, 0, ⟨#[]⟩)] := if_neg h0
    rw [e2]
    generalize (⟨q.V.toArray⟩ : ByteArray) = S at *
    refine con_of Tryz.tysOk Tryz.func145 rfl rfl ?_
    conv => whnf
    repeat' (first
      | (first | ((with_reducible refine Br.sn ?_); conv => whnf) | ((with_reducible refine Br.ndt ?_ ?_); (focus (first | assumption | omega)); conv => whnf))
      | ((with_reducible refine Nd.mk ?_ ?_); (focus (first | omega | rfl | assumption | (simp; done))); conv => whnf)
      | ((with_reducible refine Nc.go' (fun _ => ?_)); conv => whnf)
      | (refine LdN.at 2 rfl (by first | exact Nat.le_of_ble_eq_true rfl | (simp; done)) ?_; conv => whnf)
      | (refine St.at 2 rfl (by first | exact Nat.le_of_ble_eq_true rfl | (simp; done)) rfl ?_; conv => whnf)
      | (first | ((refine Cl.isAt2 0 0 rfl rfl (ht _) ?_); conv => whnf) | ((with_reducible refine Cl.is (hw _) ?_); conv => whnf))
      | ((with_reducible refine (?_ : Sm _ (Builtin.append_ _ _ _) _ _)); ((with_reducible_and_instances apply (Sm.appLit (E := markE) (et := 107) Tryz.tysOk 1 rfl [(_, _, _, _, _, _)] rfl)); (rotate_left; (focus (exact Rd.ptc 0 rfl [(_, _, _, _, _, _)] rfl)); rotate_right; (focus rfl)); (focus rfl); (focus rfl); (focus rfl); (focus rfl); (focus rfl); (focus rfl); (focus rfl); (focus rfl); (focus ((simp only [List.length_append, List.length_cons, List.length_nil]); omega)); (intro _ _ _ _); conv => whnf)))
    all_goals (rename_i a3 c3 hc3 had3; exact New.of rfl hc3 had3 (by (refine FEnt.ent ?_; (repeat (first | exact FEnt.rfl | (refine FEnt.at 0 rfl ?_; (try simp only [List.eraseIdx_cons_zero, List.eraseIdx_cons_succ, List.eraseIdx_zero, List.tail_cons])) | (refine FEnt.at 1 rfl ?_; (try simp only [List.eraseIdx_cons_zero, List.eraseIdx_cons_succ, List.eraseIdx_zero, List.tail_cons])) | refine FEnt.drop ?_)); done)))
end Go.Proofs
set_option linter.all false
namespace Go.Proofs
open Go.Eng
set_option linter.unusedVariables false
set_option maxRecDepth 100000
set_option maxHeartbeats 2000000
theorem Tryz.parNew (b : Nat) (pre V post : List UInt8) (base size owner : Int) (s : ByteArray) (L : List HP) (hb : base = pre.length) (hs : size = V.length) (hx : (pre ++ V ++ post).length ≤ 16384) (ho : 1 ≤ owner ∧ owner ≤ 8) (hl : s.size ≤ V.length) :
    Con Tryz.prog 27 [i64W owner, viewV b base size, .string s] (Tryz.memH b (pre ++ V ++ post) :: L)
      (Exs (fun n : Nat => .tuple #[pV n, i64W 0]) (fun n => ptc n 183 (parC b base size owner ⟨lay V 0 s.data.toList, 0, fun _ => 0, 0⟩) :: Tryz.memH b (pre ++ lay V 0 s.data.toList ++ post) :: L) (fun _ => True)) := by
  have hxl : (pre ++ V ++ post).length = pre.length + V.length + post.length := by simp only [List.length_append]
  have hss := size_list s
  have htx := fun L => Tryz.memText b (pre ++ V ++ post) pre.length V.length base size L (by omega) hb hs (by omega)
  have hpt : ∀ L', Con Tryz.prog 74 [pV b, i64V base, .string s] (Tryz.memH b (pre ++ V ++ post) :: L') (Is (i64V 0) (Tryz.memH b (pre ++ lay V 0 s.data.toList ++ post) :: L')) := fun L' => by
    rw [← mid_lay (by omega)]
    exact Tryz.memPut b _ (pre.length + 0) _ s L' (by omega) (by omega) (by omega)
  generalize pre ++ V ++ post = X at *
  generalize pre ++ lay V 0 s.data.toList ++ post = Y at *
  generalize lay V 0 s.data.toList = W at *
  refine con_of Tryz.tysOk Tryz.func27 rfl rfl ?_
  conv => whnf
  repeat' (first
    | (first | ((with_reducible refine Br.ff ?_); conv => whnf) | ((with_reducible refine Br.df ?_ ?_); (focus (first | assumption | omega)); conv => whnf) | ((with_reducible refine Br.ndf ?_ ?_); (focus (first | assumption | omega)); conv => whnf))
    | ((with_reducible refine Nd.mk ?_ ?_); (focus (first | omega | rfl | assumption | (simp; done))); conv => whnf)
    | ((with_reducible refine Nc.go' (fun _ => ?_)); conv => whnf)
    | (refine Ld.at 0 rfl rfl ?_; conv => whnf)
    | (refine LdN.at 0 rfl (by first | exact Nat.le_of_ble_eq_true rfl | (simp; done)) ?_; conv => whnf)
    | (first | ((refine Cl.isAt 1 rfl (htx _) ?_); conv => whnf) | ((refine Cl.isAt 1 rfl (hpt _) ?_); conv => whnf)))
  all_goals exact Exs.of _ (by (refine FEnt.ent ?_; (repeat (first | exact FEnt.rfl | (refine FEnt.at 0 rfl ?_; (try simp only [List.eraseIdx_cons_zero, List.eraseIdx_cons_succ, List.eraseIdx_zero, List.tail_cons])) | (refine FEnt.at 1 rfl ?_; (try simp only [List.eraseIdx_cons_zero, List.eraseIdx_cons_succ, List.eraseIdx_zero, List.tail_cons])) | refine FEnt.drop ?_)); done)) trivial rfl
/-- one step -/
theorem Tryz.parStep (bp b : Nat) (pre post : List UInt8) (base size owner : Int) (f : Fct) (q : Mch) (L : List HP) (hb : base = pre.length) (hs : size = q.V.length) (hx : (pre ++ q.V ++ post).length ≤ 16384) (hq : Mok q) (hf : fctI f) :
    Con Tryz.prog 153 [pV bp, fctV f] (ptc bp 183 (parC b base size owner q) :: Tryz.memH b (pre ++ q.V ++ post) :: L)
      (Exs (fun y : Option Addr × Nat => .tuple #[.slice y.1 (pstL q f).length y.2, .bool (pstB q)]) (fun y => own markE 107 y.1 y.2 (pstL q f) :: ptc bp 183 (parC b base size owner (pstF q f)) :: Tryz.memH b (pre ++ (pstF q f).V ++ post) :: L) (fun y => (pstL q f).length ≤ y.2 ∧ Ad y.1 (pstL q f).length)) := by
  have hst := fun L => Tryz.cpuStepS b pre post base size q L hb hs hx hq
  by_cases h2 : (stepF q).2.1 = 2
  · have hx8 := step_call h2
    have e1 : pstF q f = ⟨(stepF q).1.V, (stepF q).1.pc, upd (stepF q).1.r (stepF q).2.2.2.1.toNat (resF (stepF q).2.2.1 f), (stepF q).1.m⟩ := if_pos h2
    have e2 : pstL q f = [(f.1, 3, (stepF q).2.2.1, resF (stepF q).2.2.1 f, 0, ⟨#[]⟩)] := if_pos h2
    have e3 : pstB q = decide ((stepF q).2.2.1 = 4) := by unfold pstB; exact decide_eq_decide.2 ⟨fun h => h.2, fun h => ⟨h2, h⟩⟩
    rw [e1, e2, e3]
    have hbd := resF_bd (stepF q).2.2.1 f
    have hgv := fun L => Tryz.cpuGive (stepF q).1.pc (stepF q).1.m (stepF q).2.2.2.1 (resF (stepF q).2.2.1 f) (stepF q).1.r L ⟨by omega, by omega⟩ hx8
    have hmod : resF (stepF q).2.2.1 f % 65536 = resF (stepF q).2.2.1 f := by omega
    rw [hmod] at hgv
    have hre := fun L => Tryz.partResult (stepF q).2.2.1 f L hf
    dsimp only
    generalize pre ++ q.V ++ post = X at *
    generalize pre ++ (stepF q).1.V ++ post = Y at *
    generalize stepF q = sq at *
    obtain ⟨⟨V2, pc2, r2, m2⟩, w, n, x, er⟩ := sq
    dsimp only at *
    subst h2
    generalize resF n f = rn at *
    refine con_of Tryz.tysOk Tryz.func153 rfl rfl ?_
    conv => whnf
    repeat' (first
      | (first | ((with_reducible refine Br.tt ?_); conv => whnf) | ((with_reducible refine Br.sn ?_); conv => whnf) | ((with_reducible refine Br.dt ?_ ?_); (focus (first | assumption | omega)); conv => whnf) | ((with_reducible refine Br.df ?_ ?_); (focus (first | assumption | omega)); conv => whnf))
      | ((with_reducible refine Nd.mk ?_ ?_); (focus (first | omega | rfl | assumption | (simp; done))); conv => whnf)
      | ((with_reducible refine Nc.go' (fun _ => ?_)); conv => whnf)
      | ((with_reducible refine Fk.mk ?_ ?_) <;> (conv => whnf))
      | (with_reducible exact True.intro)
      | (first | (refine Ld.at 0 rfl rfl ?_; conv => whnf) | (refine Ld.at 1 rfl rfl ?_; conv => whnf) | (refine Ld.at 2 rfl rfl ?_; conv => whnf))
      | (first | (refine LdN.at 0 rfl (by first | exact Nat.le_of_ble_eq_true rfl | (simp; done)) ?_; conv => whnf) | (refine LdN.at 1 rfl (by first | exact Nat.le_of_ble_eq_true rfl | (simp; done)) ?_; conv => whnf) | (refine LdN.at 2 rfl (by first | exact Nat.le_of_ble_eq_true rfl | (simp; done)) ?_; conv => whnf) | (refine LdN.at 3 rfl (by first | exact Nat.le_of_ble_eq_true rfl | (simp; done)) ?_; conv => whnf))
      | (first | (refine St.at 0 rfl (by first | exact Nat.le_of_ble_eq_true rfl | (simp; done)) rfl ?_; conv => whnf) | (refine St.at 1 rfl (by first | exact Nat.le_of_ble_eq_true rfl | (simp; done)) rfl ?_; conv => whnf) | (refine St.at 2 rfl (by first | exact Nat.le_of_ble_eq_true rfl | (simp; done)) rfl ?_; conv => whnf) | (refine St.at 4 rfl (by first | exact Nat.le_of_ble_eq_true rfl | (simp; done)) rfl ?_; conv => whnf))
      | ((with_reducible refine Dr.by (id := 15) Tryz.tysOk rfl [(2, 0), (0, 1), (3, 1), (4, 0), (5, 0), (6, 0), (7, 1), (8, 0), (9, 0), (1, 2), (10, 0), (11, 0)] ?_ ?_); (focus kernel_rfl); conv => whnf)
      | ((with_reducible refine Dr.tree (id := 3) Tryz.tysOk rfl (.one 0 0 (.one 1 0 (.one 2 0 (.one 4 0 (.one 5 0 (.one 6 0 (.one 3 1 (.one 7 1 (.fork 8 3 (.one 9 0 (.one 10 0 (.one 11 0 (.one 12 2 (.one 13 2 (.one 14 3 (.one 15 3 .nil))))))) (.fork 12 2 (.fork 8 3 (.one 9 0 (.one 10 0 (.one 11 0 (.one 13 2 (.one 14 3 (.one 15 3 .nil)))))) (.fork 13 2 (.one 8 3 (.one 9 0 (.one 10 0 (.one 11 0 (.one 14 3 (.one 15 3 .nil)))))) .nil)) (.fork 13 2 (.fork 8 3 (.one 9 0 (.one 10 0 (.one 11 0 (.one 12 2 (.one 14 3 (.one 15 3 .nil)))))) (.fork 12 2 (.one 8 3 (.one 9 0 (.one 10 0 (.one 11 0 (.one 14 3 (.one 15 3 .nil)))))) .nil)) .nil))))))))))) ?_ _ ?_ (fun _ _ h => h)); (focus kernel_rfl); conv => whnf)
      | ((with_reducible refine Dr.tree (id := 7) Tryz.tysOk rfl (.one 0 0 (.one 2 0 (.one 3 1 (.one 4 1 (.one 5 1 (.one 6 0 (.fork 1 1 (.one 7 3 (.one 8 0 (.one 9 3 (.one 10 0 (.one 11 3 .nil))))) (.fork 7 3 (.one 1 1 (.one 8 0 (.one 9 3 (.one 10 0 (.one 11 3 .nil))))) .nil)))))))) ?_ _ ?_ (fun _ _ h => h)); (focus kernel_rfl); conv => whnf)
      | ((with_reducible refine CD.is (fun M => hre _) ?_); conv => whnf)
      | (first | ((first | refine Cl.isAt 2 rfl (hst _) ?_ | refine Cl.isAt 3 rfl (hst _) ?_ | refine Cl.isAt 4 rfl (hst _) ?_); conv => whnf) | ((with_reducible refine Cl.is (hgv _) ?_); conv => whnf)))
    all_goals exact Exs.of ((some ⟨_, 0, none⟩, 1) : Option Addr × Nat) (by (try dsimp only); (refine FEnt.ent ?_; (repeat (first | exact FEnt.rfl | (refine FEnt.at 4 rfl ?_; (try simp only [List.eraseIdx_cons_zero, List.eraseIdx_cons_succ, List.eraseIdx_zero, List.tail_cons])) | (refine FEnt.lit 0 rfl rfl rfl rfl ?_; (try simp only [List.eraseIdx_cons_zero, List.eraseIdx_cons_succ, List.eraseIdx_zero, List.tail_cons])) | refine FEnt.drop ?_)); done)) ⟨Nat.le_refl _, by exact fun _ => rfl⟩ rfl
  · by_cases h4 : (stepF q).2.1 = 4 ∨ (stepF q).2.1 = 5
    · have e1 : pstF q f = (stepF q).1 := if_neg h2
      have e2 : pstL q f = [(f.1, 4, (stepF q).2.2.2.2, 0, 0, ⟨#[]⟩)] := (if_neg h2).trans (if_pos h4)
      have e3 : pstB q = false := decide_eq_false fun h => h2 h.1
      rw [e1, e2, e3]
      generalize pre ++ q.V ++ post = X at *
      generalize pre ++ (stepF q).1.V ++ post = Y at *
      generalize stepF q = sq at *
      obtain ⟨⟨V2, pc2, r2, m2⟩, w, n, x, er⟩ := sq
      dsimp only at *
      rcases h4 with rfl | rfl
      all_goals
        refine con_of Tryz.tysOk Tryz.func153 rfl rfl ?_
        conv => whnf
        repeat' (first
          | (first | ((with_reducible refine Br.ff ?_); conv => whnf) | ((with_reducible refine Br.sn ?_); conv => whnf) | ((with_reducible refine Br.dt ?_ ?_); (focus (first | assumption | omega)); conv => whnf) | ((with_reducible refine Br.df ?_ ?_); (focus (first | assumption | omega)); conv => whnf))
          | ((with_reducible refine Nd.mk ?_ ?_); (focus (first | omega | rfl | assumption | (simp; done))); conv => whnf)
          | ((with_reducible refine Nc.go' (fun _ => ?_)); conv => whnf)
          | ((with_reducible refine Fk.mk ?_ ?_) <;> (conv => whnf))
          | (with_reducible exact True.intro)
          | (first | (refine Ld.at 0 rfl rfl ?_; conv => whnf) | (refine Ld.at 1 rfl rfl ?_; conv => whnf) | (refine Ld.at 2 rfl rfl ?_; conv => whnf))
          | (first | (refine LdN.at 0 rfl (by first | exact Nat.le_of_ble_eq_true rfl | (simp; done)) ?_; conv => whnf) | (refine LdN.at 1 rfl (by first | exact Nat.le_of_ble_eq_true rfl | (simp; done)) ?_; conv => whnf) | (refine LdN.at 2 rfl (by first | exact Nat.le_of_ble_eq_true rfl | (simp; done)) ?_; conv => whnf))
          | (first | (refine St.at 0 rfl (by first | exact Nat.le_of_ble_eq_true rfl | (simp; done)) rfl ?_; conv => whnf) | (refine St.at 1 rfl (by first | exact Nat.le_of_ble_eq_true rfl | (simp; done)) rfl ?_; conv => whnf) | (refine St.at 4 rfl (by first | exact Nat.le_of_ble_eq_true rfl | (simp; done)) rfl ?_; conv => whnf))
          | ((with_reducible refine Dr.tree (id := 11) Tryz.tysOk rfl (.one 0 0 (.one 2 0 (.fork 1 1 (.one 3 3 (.one 4 0 (.one 5 3 .nil))) (.fork 3 3 (.one 1 1 (.one 4 0 (.one 5 3 .nil))) .nil)))) ?_ _ ?_ (fun _ _ h => h)); (focus kernel_rfl); conv => whnf)
          | ((with_reducible refine Dr.by (id := 15) Tryz.tysOk rfl [(2, 0), (0, 1), (3, 1), (4, 0), (5, 0), (6, 0), (7, 1), (8, 0), (9, 0), (1, 2), (10, 0), (11, 0)] ?_ ?_); (focus kernel_rfl); conv => whnf)
          | ((with_reducible refine Dr.tree (id := 3) Tryz.tysOk rfl (.one 0 0 (.one 1 0 (.one 2 0 (.one 4 0 (.one 5 0 (.one 6 0 (.one 3 1 (.one 7 1 (.fork 8 3 (.one 9 0 (.one 10 0 (.one 11 0 (.one 12 2 (.one 13 2 (.one 14 3 (.one 15 3 .nil))))))) (.fork 12 2 (.fork 8 3 (.one 9 0 (.one 10 0 (.one 11 0 (.one 13 2 (.one 14 3 (.one 15 3 .nil)))))) (.fork 13 2 (.one 8 3 (.one 9 0 (.one 10 0 (.one 11 0 (.one 14 3 (.one 15 3 .nil)))))) .nil)) (.fork 13 2 (.fork 8 3 (.one 9 0 (.one 10 0 (.one 11 0 (.one 12 2 (.one 14 3 (.one 15 3 .nil)))))) (.fork 12 2 (.one 8 3 (.one 9 0 (.one 10 0 (.one 11 0 (.one 14 3 (.one 15 3 .nil)))))) .nil)) .nil))))))))))) ?_ _ ?_ (fun _ _ h => h)); (focus kernel_rfl); conv => whnf)
          | ((first | refine Cl.isAt 2 rfl (hst _) ?_ | refine Cl.isAt 3 rfl (hst _) ?_ | refine Cl.isAt 4 rfl (hst _) ?_); conv => whnf))
        all_goals exact Exs.of ((some ⟨_, 0, none⟩, 1) : Option Addr × Nat) (by (try dsimp only); (refine FEnt.ent ?_; (repeat (first | exact FEnt.rfl | (refine FEnt.at 4 rfl ?_; (try simp only [List.eraseIdx_cons_zero, List.eraseIdx_cons_succ, List.eraseIdx_zero, List.tail_cons])) | (refine FEnt.lit 0 rfl rfl rfl rfl ?_; (try simp only [List.eraseIdx_cons_zero, List.eraseIdx_cons_succ, List.eraseIdx_zero, List.tail_cons])) | refine FEnt.drop ?_)); done)) ⟨Nat.le_refl _, by exact fun _ => rfl⟩ rfl
    · have e1 : pstF q f = (stepF q).1 := if_neg h2
      have e2 : pstL q f = [] := (if_neg h2).trans (if_neg h4)
      have e3 : pstB q = false := decide_eq_false fun h => h2 h.1
      rw [e1, e2, e3]
      generalize pre ++ q.V ++ post = X at *
      generalize pre ++ (stepF q).1.V ++ post = Y at *
      generalize stepF q = sq at *
      obtain ⟨⟨V2, pc2, r2, m2⟩, w, n, x, er⟩ := sq
      dsimp only at *
      refine con_of Tryz.tysOk Tryz.func153 rfl rfl ?_
      conv => whnf
      repeat' (first
        | (first | ((with_reducible refine Br.sn ?_); conv => whnf) | ((with_reducible refine Br.dt ?_ ?_); (focus (first | assumption | omega)); conv => whnf) | ((with_reducible refine Br.df ?_ ?_); (focus (first | assumption | omega)); conv => whnf))
        | ((with_reducible refine Nd.mk ?_ ?_); (focus (first | omega | rfl | assumption | (simp; done))); conv => whnf)
        | ((with_reducible refine Nc.go' (fun _ => ?_)); conv => whnf)
        | ((with_reducible refine Fk.mk ?_ ?_) <;> (conv => whnf))
        | (with_reducible exact True.intro)
        | (first | (refine Ld.at 0 rfl rfl ?_; conv => whnf) | (refine Ld.at 1 rfl rfl ?_; conv => whnf) | (refine Ld.at 2 rfl rfl ?_; conv => whnf))
        | (first | (refine LdN.at 1 rfl (by first | exact Nat.le_of_ble_eq_true rfl | (simp; done)) ?_; conv => whnf) | (refine LdN.at 2 rfl (by first | exact Nat.le_of_ble_eq_true rfl | (simp; done)) ?_; conv => whnf))
        | (first | (refine St.at 0 rfl (by first | exact Nat.le_of_ble_eq_true rfl | (simp; done)) rfl ?_; conv => whnf) | (refine St.at 1 rfl (by first | exact Nat.le_of_ble_eq_true rfl | (simp; done)) rfl ?_; conv => whnf) | (refine St.at 4 rfl (by first | exact Nat.le_of_ble_eq_true rfl | (simp; done)) rfl ?_; conv => whnf))
        | ((with_reducible refine Dr.tree (id := 3) Tryz.tysOk rfl (.one 0 0 (.one 1 0 (.one 2 0 (.one 4 0 (.one 5 0 (.one 6 0 (.one 3 1 (.one 7 1 (.fork 8 3 (.one 9 0 (.one 10 0 (.one 11 0 (.one 12 2 (.one 13 2 (.one 14 3 (.one 15 3 .nil))))))) (.fork 12 2 (.fork 8 3 (.one 9 0 (.one 10 0 (.one 11 0 (.one 13 2 (.one 14 3 (.one 15 3 .nil)))))) (.fork 13 2 (.one 8 3 (.one 9 0 (.one 10 0 (.one 11 0 (.one 14 3 (.one 15 3 .nil)))))) .nil)) (.fork 13 2 (.fork 8 3 (.one 9 0 (.one 10 0 (.one 11 0 (.one 12 2 (.one 14 3 (.one 15 3 .nil)))))) (.fork 12 2 (.one 8 3 (.one 9 0 (.one 10 0 (.one 11 0 (.one 14 3 (.one 15 3 .nil)))))) .nil)) .nil))))))))))) ?_ _ ?_ (fun _ _ h => h)); (focus kernel_rfl); conv => whnf)
        | ((first | refine Cl.isAt 2 rfl (hst _) ?_ | refine Cl.isAt 3 rfl (hst _) ?_ | refine Cl.isAt 4 rfl (hst _) ?_); conv => whnf))
      all_goals exact Exs.of ((none, 0) : Option Addr × Nat) (by (try dsimp only); (refine FEnt.ent ?_; (repeat (first | exact FEnt.rfl | (refine FEnt.at 4 rfl ?_; (try simp only [List.eraseIdx_cons_zero, List.eraseIdx_cons_succ, List.eraseIdx_zero, List.tail_cons])) | refine FEnt.nil ?_ | refine FEnt.drop ?_)); done)) (And.intro (Nat.le_refl _) (fun h => (h rfl).elim)) rfl
/-! the document's -/
abbrev xV (a : Option Addr) (c : Nat) (q : Mch) : Value := .agg (.slice a (ints q.V).length c :: stC q.pc q.r q.m).toArray
end Go.Proofs
