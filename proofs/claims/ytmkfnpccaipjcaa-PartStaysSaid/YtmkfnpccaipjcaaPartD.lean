/- The partition's deeds, on both: contracts. -/
import Derived.Test.YtmkfnpccaipjcaaPartC
set_option linter.all false
namespace Go.Proofs
open Go.Eng
set_option linter.unusedVariables false
set_option maxRecDepth 100000
set_option maxHeartbeats 2000000
/-- the document's bytes and the marks it told of -/
structure Mkt (A : HP) (W : List UInt8) (l : List Mk6) (x : (HP × Option Addr × Nat) × Option Addr × Nat) : Prop where
  bts : Bts A W x.1
  cap : l.length ≤ x.2.2
  at_ : Ad x.2.1 l.length
theorem Try.refStep27 (A : HP) (a : Option Addr) (c : Nat) (f : Fct) (q : Mch) (L : List HP) (hq : Mok q) (hf : fctI f) (hc : (ints q.V).length ≤ c) (hrd : Rd intE [A] a (ints q.V)) :
    Con Try.prog 33 [xV a c q, fctV f] (A :: L)
      (Exs (fun x : (HP × Option Addr × Nat) × Option Addr × Nat => .tuple #[xV x.1.2.1 x.1.2.2 (pstF q f), .slice x.2.1 (pstL q f).length x.2.2, .bool (pstB q)]) (fun x => own markE 73 x.2.1 x.2.2 (pstL q f) :: x.1.1 :: L) (Mkt A (pstF q f).V (pstL q f))) := by
  have hst := fun L => Try.refStep A a c q L (by have := hq.few; omega) hc hq.pcI hq.regs hrd
  by_cases h2 : (stepF q).2.1 = 2
  · have hx8 := step_call h2
    have e1 : pstF q f = ⟨(stepF q).1.V, (stepF q).1.pc, upd (stepF q).1.r (stepF q).2.2.2.1.toNat (resF (stepF q).2.2.1 f), (stepF q).1.m⟩ := if_pos h2
    have e2 : pstL q f = [(f.1, 3, (stepF q).2.2.1, resF (stepF q).2.2.1 f, 0, ⟨#[]⟩)] := if_pos h2
    have e3 : pstB q = decide ((stepF q).2.2.1 = 4) := by unfold pstB; exact decide_eq_decide.2 ⟨fun h => h.2, fun h => ⟨h2, h⟩⟩
    rw [e1, e2, e3]
    have hre := fun L => Try.refResult (stepF q).2.2.1 f L hf
    dsimp only
    generalize stepF q = sq at *
    obtain ⟨⟨V2, pc2, r2, m2⟩, w, n, x, er⟩ := sq
    dsimp only at *
    subst h2
    generalize resF n f = rn at *
    refine con_of Try.tysOk Try.func33 rfl rfl ?_
    conv => whnf
    repeat' (first
      | (first | ((with_reducible refine Br.ff ?_); conv => whnf) | ((with_reducible refine Br.yes ?_ ?_); (focus (first | (simp; done) | (simp; omega))); conv => whnf) | ((with_reducible refine Br.no ?_ ?_); (focus (first | (simp; done) | (simp; omega))); conv => whnf))
      | ((with_reducible refine Nd.mk ?_ ?_); (focus (first | omega | rfl | assumption | (simp; done))); conv => whnf)
      | ((with_reducible refine Nc.go' (fun _ => ?_)); conv => whnf)
      | ((with_reducible refine Ix.arr ?_ ?_); (focus (omega)); conv => whnf)
      | (first | (refine Ld.at 1 rfl rfl ?_; conv => whnf) | (refine Ld.at 2 rfl rfl ?_; conv => whnf) | (refine Ld.at 5 rfl rfl ?_; conv => whnf))
      | (first | (refine LdN.at 2 rfl (by first | exact Nat.le_of_ble_eq_true rfl | (simp; done)) ?_; conv => whnf) | (refine LdN.at 3 rfl (by first | exact Nat.le_of_ble_eq_true rfl | (simp; done)) ?_; conv => whnf) | (refine LdN.at 5 rfl (by first | exact Nat.le_of_ble_eq_true rfl | (simp; done)) ?_; conv => whnf))
      | (first | (refine St.reg 2 rfl ?_ ?_; (focus (omega)); conv => whnf) | (refine St.at 0 rfl (by first | exact Nat.le_of_ble_eq_true rfl | (simp; done)) rfl ?_; conv => whnf) | (refine St.at 1 rfl (by first | exact Nat.le_of_ble_eq_true rfl | (simp; done)) rfl ?_; conv => whnf) | (refine St.at 5 rfl (by first | exact Nat.le_of_ble_eq_true rfl | (simp; done)) rfl ?_; conv => whnf))
      | (first | ((refine Cl.exsAt 3 rfl (fun M => hst M) ?_); (conv => whnf); rintro ⟨A3, a3, c3⟩ hb; conv => whnf) | ((with_reducible refine Cl.is (hre _) ?_); conv => whnf))
      | ((with_reducible refine (?_ : Sm _ (Builtin.append_ _ _ _) _ _)); (((with_reducible_and_instances apply (Sm.appNew (E := markE) (et := 73) Try.tysOk 1)); (focus rfl)); (rotate_left; (focus (exact Rd.ptc 0 rfl [(_, _, _, _, _, _)] rfl)); rotate_right; (focus rfl)); (focus rfl); (focus rfl); (focus rfl); (focus rfl); (focus rfl); (focus ((simp only [List.length_append, List.length_cons, List.length_nil]); omega)); (intro _ _ _ _); conv => whnf)))
    all_goals (rename_i a4 c4 hc4 had4; exact Exs.of ((A3, a3, c3), a4, c4) (by (try dsimp only); (refine FEnt.ent ?_; (repeat (first | exact FEnt.rfl | (refine FEnt.at 0 rfl ?_; (try simp only [List.eraseIdx_cons_zero, List.eraseIdx_cons_succ, List.eraseIdx_zero, List.tail_cons])) | (refine FEnt.at 3 rfl ?_; (try simp only [List.eraseIdx_cons_zero, List.eraseIdx_cons_succ, List.eraseIdx_zero, List.tail_cons])) | refine FEnt.drop ?_)); done)) ⟨hb, hc4, had4⟩ rfl)
  · by_cases h4 : (stepF q).2.1 = 4 ∨ (stepF q).2.1 = 5
    · have e1 : pstF q f = (stepF q).1 := if_neg h2
      have e2 : pstL q f = [(f.1, 4, (stepF q).2.2.2.2, 0, 0, ⟨#[]⟩)] := (if_neg h2).trans (if_pos h4)
      have e3 : pstB q = false := decide_eq_false fun h => h2 h.1
      rw [e1, e2, e3]
      generalize stepF q = sq at *
      obtain ⟨⟨V2, pc2, r2, m2⟩, w, n, x, er⟩ := sq
      dsimp only at *
      rcases h4 with rfl | rfl
      all_goals
        refine con_of Try.tysOk Try.func33 rfl rfl ?_
        conv => whnf
        repeat' (first
          | (first | ((with_reducible refine Br.tt ?_); conv => whnf) | ((with_reducible refine Br.ff ?_); conv => whnf) | ((with_reducible refine Br.df ?_ ?_); (focus (first | assumption | omega)); conv => whnf) | ((with_reducible refine Br.yes ?_ ?_); (focus (first | (simp; done) | (simp; omega))); conv => whnf) | ((with_reducible refine Br.no ?_ ?_); (focus (first | (simp; done) | (simp; omega))); conv => whnf))
          | ((with_reducible refine Nd.mk ?_ ?_); (focus (first | omega | rfl | assumption | (simp; done))); conv => whnf)
          | ((with_reducible refine Nc.go' (fun _ => ?_)); conv => whnf)
          | (first | (refine Ld.at 1 rfl rfl ?_; conv => whnf) | (refine Ld.at 2 rfl rfl ?_; conv => whnf) | (refine Ld.at 5 rfl rfl ?_; conv => whnf))
          | (first | (refine LdN.at 2 rfl (by first | exact Nat.le_of_ble_eq_true rfl | (simp; done)) ?_; conv => whnf) | (refine LdN.at 3 rfl (by first | exact Nat.le_of_ble_eq_true rfl | (simp; done)) ?_; conv => whnf) | (refine LdN.at 5 rfl (by first | exact Nat.le_of_ble_eq_true rfl | (simp; done)) ?_; conv => whnf))
          | (first | (refine St.at 0 rfl (by first | exact Nat.le_of_ble_eq_true rfl | (simp; done)) rfl ?_; conv => whnf) | (refine St.at 1 rfl (by first | exact Nat.le_of_ble_eq_true rfl | (simp; done)) rfl ?_; conv => whnf) | (refine St.at 5 rfl (by first | exact Nat.le_of_ble_eq_true rfl | (simp; done)) rfl ?_; conv => whnf))
          | ((refine Cl.exsAt 3 rfl (fun M => hst M) ?_); (conv => whnf); rintro ⟨A3, a3, c3⟩ hb; conv => whnf)
          | ((with_reducible refine (?_ : Sm _ (Builtin.append_ _ _ _) _ _)); (((with_reducible_and_instances apply (Sm.appNew (E := markE) (et := 73) Try.tysOk 1)); (focus rfl)); (rotate_left; (focus (exact Rd.ptc 0 rfl [(_, _, _, _, _, _)] rfl)); rotate_right; (focus rfl)); (focus rfl); (focus rfl); (focus rfl); (focus rfl); (focus rfl); (focus ((simp only [List.length_append, List.length_cons, List.length_nil]); omega)); (intro _ _ _ _); conv => whnf)))
        all_goals (rename_i a4 c4 hc4 had4; exact Exs.of ((A3, a3, c3), a4, c4) (by (try dsimp only); (refine FEnt.ent ?_; (repeat (first | exact FEnt.rfl | (refine FEnt.at 0 rfl ?_; (try simp only [List.eraseIdx_cons_zero, List.eraseIdx_cons_succ, List.eraseIdx_zero, List.tail_cons])) | (refine FEnt.at 3 rfl ?_; (try simp only [List.eraseIdx_cons_zero, List.eraseIdx_cons_succ, List.eraseIdx_zero, List.tail_cons])) | refine FEnt.drop ?_)); done)) ⟨hb, hc4, had4⟩ rfl)
    · have e1 : pstF q f = (stepF q).1 := if_neg h2
      have e2 : pstL q f = [] := (if_neg h2).trans (if_neg h4)
      have e3 : pstB q = false := decide_eq_false fun h => h2 h.1
      rw [e1, e2, e3]
      generalize stepF q = sq at *
      obtain ⟨⟨V2, pc2, r2, m2⟩, w, n, x, er⟩ := sq
      dsimp only at *
      refine con_of Try.tysOk Try.func33 rfl rfl ?_
      conv => whnf
      repeat' (first
        | (first | ((with_reducible refine Br.ff ?_); conv => whnf) | ((with_reducible refine Br.df ?_ ?_); (focus (first | assumption | omega)); conv => whnf) | ((with_reducible refine Br.no ?_ ?_); (focus (first | (simp; done) | (simp; omega))); conv => whnf))
        | ((with_reducible refine Nd.mk ?_ ?_); (focus (first | omega | rfl | assumption | (simp; done))); conv => whnf)
        | ((with_reducible refine Nc.go' (fun _ => ?_)); conv => whnf)
        | (first | (refine Ld.at 1 rfl rfl ?_; conv => whnf) | (refine Ld.at 2 rfl rfl ?_; conv => whnf))
        | (first | (refine LdN.at 2 rfl (by first | exact Nat.le_of_ble_eq_true rfl | (simp; done)) ?_; conv => whnf) | (refine LdN.at 4 rfl (by first | exact Nat.le_of_ble_eq_true rfl | (simp; done)) ?_; conv => whnf))
        | (first | (refine St.at 0 rfl (by first | exact Nat.le_of_ble_eq_true rfl | (simp; done)) rfl ?_; conv => whnf) | (refine St.at 1 rfl (by first | exact Nat.le_of_ble_eq_true rfl | (simp; done)) rfl ?_; conv => whnf) | (refine St.at 4 rfl (by first | exact Nat.le_of_ble_eq_true rfl | (simp; done)) rfl ?_; conv => whnf))
        | ((refine Cl.exsAt 3 rfl (fun M => hst M) ?_); (conv => whnf); rintro ⟨A3, a3, c3⟩ hb; conv => whnf))
      all_goals exact Exs.of ((A3, a3, c3), (some ⟨_, 0, none⟩ : Option Addr), 0) (by (try dsimp only); (refine FEnt.ent ?_; (repeat (first | exact FEnt.rfl | (refine FEnt.at 2 rfl ?_; (try simp only [List.eraseIdx_cons_zero, List.eraseIdx_cons_succ, List.eraseIdx_zero, List.tail_cons])) | (refine FEnt.own0 0 rfl ?_; (try simp only [List.eraseIdx_cons_zero, List.eraseIdx_cons_succ, List.eraseIdx_zero, List.tail_cons])) | refine FEnt.drop ?_)); done)) ⟨hb, Nat.le_refl _, by exact fun _ => rfl⟩ rfl
theorem Try.refNew27 (s : ByteArray) (N : Nat) (L : List HP) (hN : N ≤ 400) (hl : s.size ≤ N) :
    Con Try.prog 13 [i64W N, .string s] L
      (Exs (fun y : Option Addr × Nat => xV y.1 y.2 ⟨lay (zeros N) 0 s.data.toList, 0, fun _ => 0, 0⟩) (fun y => own intE 3 y.1 y.2 (ints (lay (zeros N) 0 s.data.toList)) :: L) (fun y => (ints (lay (zeros N) 0 s.data.toList)).length ≤ y.2 ∧ Ad y.1 (ints (lay (zeros N) 0 s.data.toList)).length)) := by
  have hzN : (zeros N).length = N := List.length_replicate
  have hsl := size_list s
  have hil := ints_len s.data.toList
  have hN0 : (zeros (min (max (N : Int) 0) 16384).toNat) = zeros N := by rw [show (min (max (N : Int) 0) 16384).toNat = N from by omega]
  have hnr := Try.refNew (N : Int)
  rw [hN0] at hnr
  have hw : ∀ a' c' a c L, Rd intE L a (ints (zeros N)) → Rd intE L a' (ints s.data.toList) → Con Try.prog 29 [.slice a (ints (zeros N)).length c, i64V 0, .slice a' (ints s.data.toList).length c'] L (New intE 3 (ints (lay (zeros N) 0 s.data.toList)) L) := fun a' c' a c L h1 h2 =>
    Try.refWithB a a' c c' 0 0 (zeros N) s.data.toList _ L (by omega) rfl (by omega) h1 h2 (fun x hx => by obtain ⟨u, _, rfl⟩ := List.mem_map.1 hx; exact u8I u) (by rw [← ints_u8of, u8of_ints])
  generalize lay (zeros N) 0 s.data.toList = W at *
  generalize zeros N = Z at *
  refine con_of Try.tysOk Try.func13 rfl rfl ?_
  conv => whnf
  repeat' (first
    | ((with_reducible refine Nd.mk ?_ ?_); (focus (first | omega | rfl | assumption | (simp; done))); conv => whnf)
    | ((with_reducible refine Nc.go' (fun _ => ?_)); conv => whnf)
    | (refine LdN.at 3 rfl (by first | exact Nat.le_of_ble_eq_true rfl | (simp; done)) ?_; conv => whnf)
    | (refine St.at 3 rfl (by first | exact Nat.le_of_ble_eq_true rfl | (simp; done)) rfl ?_; conv => whnf)
    | (first | ((with_reducible refine Cl.new (hnr _ ⟨by omega, by omega⟩) (fun _ _ _ _ => ?_)); conv => whnf) | ((with_reducible refine Cl.new (Try.refBytes _ _ (by omega)) (fun _ _ _ _ => ?_)); conv => whnf) | ((with_reducible refine (?_ : Cl _ 29 _ _ _ _)); (refine Cl.new (hw _ _ _ _ _ (by ((repeat ((refine Rd.own 1 rfl ?_); (assumption))); done)) (by ((repeat ((refine Rd.own 0 rfl ?_); (assumption))); done))) (fun _ _ _ _ => ?_)); conv => whnf)))
  all_goals (rename_i a3 c3 hc3 had3; exact Exs.of ((a3, c3) : Option Addr × Nat) (by (try dsimp only); (refine FEnt.ent ?_; (repeat (first | exact FEnt.rfl | (refine FEnt.at 0 rfl ?_; (try simp only [List.eraseIdx_cons_zero, List.eraseIdx_cons_succ, List.eraseIdx_zero, List.tail_cons])) | refine FEnt.drop ?_)); done)) ⟨hc3, had3⟩ rfl)
end Go.Proofs
