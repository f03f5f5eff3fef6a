/- The partition's deeds, on both: contracts. -/
import Derived.Test.YtmkfnpccaipjcaaPartD
import Derived.Test.YtmkfnpccaipjcaaEngMore
set_option linter.all false
namespace Go.Proofs
open Go.Eng
set_option linter.unusedVariables false
set_option maxRecDepth 100000
set_option maxHeartbeats 2000000
abbrev PDeed := Bool × Fct
def pdE : Enc PDeed := ⟨6, fun d => [.bool d.1, i64W d.2.1, i64W d.2.2.1, i64W d.2.2.2.1, i64W d.2.2.2.2.1, i64W d.2.2.2.2.2], (false, 0, 0, 0, 0, 0), fun _ => rfl, by omega, fun _ => rfl⟩
abbrev pdV (d : PDeed) : Value := .agg #[.bool d.1, i64W d.2.1, i64W d.2.2.1, i64W d.2.2.2.1, i64W d.2.2.2.2.1, i64W d.2.2.2.2.2]
def doF (q : Mch) (d : PDeed) : Mch := if d.1 = true then opnF q else pstF q d.2
theorem do_ok {q : Mch} {d : PDeed} (h : Mok q) : Mok (doF q d) := by
  unfold doF
  split
  · exact opn_ok h
  · exact pst_ok h
theorem do_len (q : Mch) (d : PDeed) : (doF q d).V.length = q.V.length := by
  unfold doF
  split
  · rfl
  · exact pst_len q d.2
theorem opnL_len (q : Mch) (t b : Int) : (opnL q t b).length ≤ 2 := by
  unfold opnL
  split <;> exact Nat.le_of_ble_eq_true rfl
theorem pstL_len (q : Mch) (f : Fct) : (pstL q f).length ≤ 2 := by
  unfold pstL
  repeat' split
  all_goals exact Nat.le_of_ble_eq_true rfl
theorem Try.parDo (bp b : Nat) (pre post : List UInt8) (base size owner : Int) (A : HP) (a : Option Addr) (c : Nat) (d : PDeed) (q : Mch) (L : List HP) (hb : base = pre.length) (hs : size = q.V.length) (hx : (pre ++ q.V ++ post).length ≤ 16384) (hq : Mok q) (hf : fctI d.2)
    (hc : (ints q.V).length ≤ c) (hrd : Rd intE [A] a (ints q.V)) :
    Con Try.prog 14 [pV bp, xV a c q, pdV d] (ptc bp 79 (parC b base size owner q) :: Try.memH b (pre ++ q.V ++ post) :: A :: L)
      (Exs (fun x : HP × Option Addr × Nat => .tuple #[xV x.2.1 x.2.2 (doF q d), .bool true]) (fun x => ptc bp 79 (parC b base size owner (doF q d)) :: Try.memH b (pre ++ (doF q d).V ++ post) :: x.1 :: L) (Bts A (doF q d).V)) := by
  obtain ⟨o, f⟩ := d
  have hV := hq.few
  cases o with
  | true =>
    have e : doF q (true, f) = opnF q := rfl
    rw [e]
    have ho := fun L => Try.parOpen bp b pre post base size owner f.1 f.2.2.2.2 q L hb hs hx
    have hr := fun L h => Try.refOpen27 a c f.1 f.2.2.2.2 q L (by omega) h
    have hln := opnL_len q f.1 f.2.2.2.2
    have eV : (opnF q).V = q.V := rfl
    rw [eV]
    have hsm := fun a1 a2 c1 c2 L h1 h2 => Try.refSameM a1 a2 c1 c2 (opnL q f.1 f.2.2.2.2) L (by omega) h1 h2
    generalize pre ++ q.V ++ post = X at *
    generalize opnL q f.1 f.2.2.2.2 = l at *
    refine con_of Try.tysOk Try.func14 rfl rfl ?_
    conv => whnf
    repeat' (first
      | ((with_reducible refine Br.tt ?_); conv => whnf)
      | ((with_reducible refine Nd.mk ?_ ?_); (focus (first | omega | rfl | assumption | (simp; done))); conv => whnf)
      | ((with_reducible refine Nc.go' (fun _ => ?_)); conv => whnf)
      | ((with_reducible refine Fk.mk ?_ ?_) <;> (conv => whnf))
      | (with_reducible exact True.intro)
      | (first | (refine Ld.at 1 rfl rfl ?_; conv => whnf) | (refine Ld.at 3 rfl rfl ?_; conv => whnf))
      | (first | (refine LdN.at 0 rfl (by first | exact Nat.le_of_ble_eq_true rfl | (simp; done)) ?_; conv => whnf) | (refine LdN.at 2 rfl (by first | exact Nat.le_of_ble_eq_true rfl | (simp; done)) ?_; conv => whnf) | (refine LdN.at 3 rfl (by first | exact Nat.le_of_ble_eq_true rfl | (simp; done)) ?_; conv => whnf) | (refine LdN.at 5 rfl (by first | exact Nat.le_of_ble_eq_true rfl | (simp; done)) ?_; conv => whnf))
      | (first | (refine St.at 0 rfl (by first | exact Nat.le_of_ble_eq_true rfl | (simp; done)) rfl ?_; conv => whnf) | (refine St.at 5 rfl (by first | exact Nat.le_of_ble_eq_true rfl | (simp; done)) rfl ?_; conv => whnf))
      | ((with_reducible refine Dr.tree (id := 3) Try.tysOk rfl (.one 1 0 (.one 2 0 (.one 3 0 (.one 5 0 (.one 6 0 (.one 9 0 (.one 4 1 (.one 7 1 (.fork 0 1 (.one 8 3 (.one 10 1 (.one 11 3 (.one 12 0 .nil)))) (.fork 8 3 (.one 0 1 (.one 10 1 (.one 11 3 (.one 12 0 .nil)))) .nil)))))))))) ?_ _ ?_ (fun _ _ h => h)); (focus kernel_rfl); conv => whnf)
      | ((with_reducible refine (?_ : CD _ 24 _ _ _)); (refine CD.is (fun M => hsm _ _ _ _ _ (by ((repeat (first | ((refine Rd.own 0 rfl ?_); (assumption)) | apply Rd.app)); done)) (by ((repeat (first | ((refine Rd.own 4 rfl ?_); (assumption)) | apply Rd.app)); done))) ?_); conv => whnf)
      | (first | ((with_reducible refine (?_ : Cl _ 32 _ _ _ _)); (refine Cl.exs (hr _ (by ((repeat (first | exact Rd.hd (by assumption) | apply Rd.cons)); done))) ?_; rintro ⟨a3, c3⟩ ⟨hc3, had3⟩; dsimp only at hc3 had3); conv => whnf) | (apply (Cl.pre [ptc bp _ _, Try.memH b _]); (focus (repeat (first | exact FEnt.rfl | (refine FEnt.at 5 rfl ?_; (try simp only [List.eraseIdx_cons_zero, List.eraseIdx_cons_succ, List.eraseIdx_zero, List.tail_cons])))); done); refine Cl.new (ho _) (fun _ _ _ _ => ?_); conv => whnf)))
    all_goals exact Exs.of ((A, a, c) : HP × Option Addr × Nat) (by (try dsimp only); (refine FEnt.ent ?_; (repeat (first | exact FEnt.rfl | (refine FEnt.at 1 rfl ?_; (try simp only [List.eraseIdx_cons_zero, List.eraseIdx_cons_succ, List.eraseIdx_zero, List.tail_cons])) | (refine FEnt.at 6 rfl ?_; (try simp only [List.eraseIdx_cons_zero, List.eraseIdx_cons_succ, List.eraseIdx_zero, List.tail_cons])) | refine FEnt.drop ?_)); done)) (Bts.mk hrd Ent.rfl hc) rfl
  | false =>
    have e : doF q (false, f) = pstF q f := rfl
    rw [e]
    have ho := fun L => Try.parStep bp b pre post base size owner f q L hb hs hx hq hf
    have hr := fun L => Try.refStep27 A a c f q L hq hf hc hrd
    have hln := pstL_len q f
    have hsm := fun a1 a2 c1 c2 L h1 h2 => Try.refSameM a1 a2 c1 c2 (pstL q f) L (by omega) h1 h2
    generalize pre ++ q.V ++ post = X at *
    generalize pre ++ (pstF q f).V ++ post = Y at *
    generalize pstL q f = l at *
    generalize pstB q = bt at *
    have hbb : (bt == bt) = true := beq_self_eq_true bt
    generalize pstF q f = q' at *
    refine con_of Try.tysOk Try.func14 rfl rfl ?_
    conv => whnf
    repeat' (first
      | (first | ((with_reducible refine Br.tt ?_); conv => whnf) | ((with_reducible refine Br.ff ?_); conv => whnf))
      | ((with_reducible refine Nd.mk ?_ ?_); (focus (first | omega | rfl | assumption | (simp; done))); conv => whnf)
      | ((with_reducible refine Nc.go' (fun _ => ?_)); conv => whnf)
      | ((with_reducible refine Fk.mk ?_ ?_) <;> (conv => whnf))
      | (with_reducible exact True.intro)
      | (refine Ld.at 1 rfl rfl ?_; conv => whnf)
      | (first | (refine LdN.at 1 rfl (by first | exact Nat.le_of_ble_eq_true rfl | (simp; done)) ?_; conv => whnf) | (refine LdN.at 2 rfl (by first | exact Nat.le_of_ble_eq_true rfl | (simp; done)) ?_; conv => whnf) | (refine LdN.at 3 rfl (by first | exact Nat.le_of_ble_eq_true rfl | (simp; done)) ?_; conv => whnf) | (refine LdN.at 4 rfl (by first | exact Nat.le_of_ble_eq_true rfl | (simp; done)) ?_; conv => whnf) | (refine LdN.at 5 rfl (by first | exact Nat.le_of_ble_eq_true rfl | (simp; done)) ?_; conv => whnf) | (refine LdN.at 6 rfl (by first | exact Nat.le_of_ble_eq_true rfl | (simp; done)) ?_; conv => whnf))
      | (first | (refine St.at 0 rfl (by first | exact Nat.le_of_ble_eq_true rfl | (simp; done)) rfl ?_; conv => whnf) | (refine St.at 2 rfl (by first | exact Nat.le_of_ble_eq_true rfl | (simp; done)) rfl ?_; conv => whnf) | (refine St.at 6 rfl (by first | exact Nat.le_of_ble_eq_true rfl | (simp; done)) rfl ?_; conv => whnf))
      | ((with_reducible refine Dr.tree (id := 4) Try.tysOk rfl (.one 1 0 (.one 0 1 (.one 2 1 (.one 3 1 (.fork 4 3 (.one 5 0 (.one 6 0 (.one 7 0 (.one 8 0 (.one 9 2 (.one 10 3 (.one 11 0 (.one 12 0 .nil)))))))) (.fork 9 2 (.one 4 3 (.one 5 0 (.one 6 0 (.one 7 0 (.one 8 0 (.one 10 3 (.one 11 0 (.one 12 0 .nil)))))))) .nil)))))) ?_ _ ?_ (fun _ _ h => h)); (focus kernel_rfl); conv => whnf)
      | ((with_reducible refine Dr.by (id := 6) Try.tysOk rfl [(1, 0), (2, 0), (0, 1), (3, 1), (4, 0), (5, 0), (6, 0), (7, 0), (8, 0), (9, 3), (10, 0)] ?_ ?_); (focus kernel_rfl); conv => whnf)
      | (first | ((with_reducible refine CD.is (fun M => Try.lawFacts _ _) ?_); conv => whnf) | ((with_reducible refine (?_ : CD _ 24 _ _ _)); (refine CD.is (fun M => hsm _ _ _ _ _ (by ((repeat (first | ((refine Rd.own 0 rfl ?_); (assumption)) | apply Rd.app)); done)) (by ((repeat (first | ((first | refine Rd.own 3 rfl ?_ | refine Rd.own 4 rfl ?_); (assumption)) | apply Rd.app)); done))) ?_); conv => whnf))
      | (first | ((first | refine Cl.exsAt2 5 rfl (fun M => hr M) ?_ | refine Cl.exsAt2 6 rfl (fun M => hr M) ?_); (conv => whnf); rintro ⟨⟨A3, a3, c3⟩, a4, c4⟩ ⟨hb3, hc4, had4⟩; conv => whnf) | (apply (Cl.pre [ptc bp _ _, Try.memH b _]); (focus ((repeat (first | exact FEnt.rfl | (refine FEnt.at 6 rfl ?_; (try simp only [List.eraseIdx_cons_zero, List.eraseIdx_cons_succ, List.eraseIdx_zero, List.tail_cons])))); done)); refine Cl.exs (ho _) ?_; rintro ⟨a5, c5⟩ ⟨hc5, had5⟩; conv => whnf)))
    all_goals exact Exs.of ((A3, a3, c3) : HP × Option Addr × Nat) (by (try dsimp only); (refine FEnt.ent ?_; (repeat (first | exact FEnt.rfl | (refine FEnt.at 1 rfl ?_; (try simp only [List.eraseIdx_cons_zero, List.eraseIdx_cons_succ, List.eraseIdx_zero, List.tail_cons])) | (refine FEnt.at 2 rfl ?_; (try simp only [List.eraseIdx_cons_zero, List.eraseIdx_cons_succ, List.eraseIdx_zero, List.tail_cons])) | (refine FEnt.at 3 rfl ?_; (try simp only [List.eraseIdx_cons_zero, List.eraseIdx_cons_succ, List.eraseIdx_zero, List.tail_cons])) | refine FEnt.drop ?_)); done)) hb3 (by first | rfl | (rw [hbb]; rfl))
theorem Try.parSame (bp b : Nat) (pre post : List UInt8) (base size owner : Int) (a : Option Addr) (c : Nat) (q : Mch) (L : List HP) (hb : base = pre.length) (hs : size = q.V.length) (hx : (pre ++ q.V ++ post).length ≤ 16384) (hq : Mok q) (hrd : Rd intE L a (ints q.V)) :
    Con Try.prog 15 [pV bp, xV a c q] (ptc bp 79 (parC b base size owner q) :: Try.memH b (pre ++ q.V ++ post) :: L) (Is (.bool true) (ptc bp 79 (parC b base size owner q) :: Try.memH b (pre ++ q.V ++ post) :: L)) := by
  have hV := hq.few
  have ht := fun L => Try.parText bp b pre post base size owner q L hb hs hx
  have hr := fun L h => Try.refTextAll a c 0 q.V L (by omega) rfl h
  have hrf : (⟨q.V.toArray⟩ : ByteArray) = ⟨q.V.toArray⟩ := rfl
  generalize (⟨q.V.toArray⟩ : ByteArray) = S at *
  generalize pre ++ q.V ++ post = X at *
  refine con_of Try.tysOk Try.func15 rfl rfl ?_
  conv => whnf
  repeat' (first
    | ((with_reducible refine Br.tt ?_); conv => whnf)
    | ((with_reducible refine Nd.mk ?_ ?_); (focus (first | omega | rfl | assumption | (simp; done))); conv => whnf)
    | ((with_reducible refine Nc.go' (fun _ => ?_)); conv => whnf)
    | (refine Eqs.is rfl (by kernel_rfl) ?_; conv => whnf)
    | (first | (refine Ld.at 0 rfl rfl ?_; conv => whnf) | (refine Ld.at 1 rfl rfl ?_; conv => whnf))
    | (first | (refine LdN.at 0 rfl (by first | exact Nat.le_of_ble_eq_true rfl | (simp; done)) ?_; conv => whnf) | (refine LdN.at 1 rfl (by first | exact Nat.le_of_ble_eq_true rfl | (simp; done)) ?_; conv => whnf))
    | (refine St.at 0 rfl (by first | exact Nat.le_of_ble_eq_true rfl | (simp; done)) rfl ?_; conv => whnf)
    | ((with_reducible refine Dr.by (id := 2) Try.tysOk rfl [(0, 0), (2, 0), (4, 0), (7, 0), (1, 1), (3, 1), (5, 1), (6, 0), (8, 1), (9, 0), (10, 0), (11, 0), (13, 0), (15, 0), (12, 1), (14, 1), (16, 1), (17, 0), (18, 1), (19, 0), (20, 0), (21, 0)] ?_ ?_); (focus kernel_rfl); conv => whnf)
    | (first | ((with_reducible refine (?_ : CD _ 34 _ _ _)); (refine CD.is (fun M => hr _ (by ((repeat (first | assumption | apply Rd.cons | apply Rd.app)); done))) ?_); conv => whnf) | ((with_reducible refine (?_ : CD _ 21 _ _ _)); (first | (refine CD.isAt2 0 0 rfl rfl (fun M => ht M) ?_) | (refine CD.isAt2 1 1 rfl rfl (fun M => ht M) ?_) | (refine CD.isAt2 2 2 rfl rfl (fun M => ht M) ?_) | (refine CD.isAt2 3 3 rfl rfl (fun M => ht M) ?_)); conv => whnf))
    | ((refine Cl.isAt 1 rfl (Try.parState _ _ _ _ _ _ _) ?_); conv => whnf))
  all_goals (refine Is.ent ?_ ?_; (focus (refine FEnt.ent ?_; (repeat (first | exact FEnt.rfl | (refine FEnt.at 2 rfl ?_; (try simp only [List.eraseIdx_cons_zero, List.eraseIdx_cons_succ, List.eraseIdx_zero, List.tail_cons])) | refine FEnt.drop ?_)); done)); (exact Is.ttr (by first | assumption | omega)))
end Go.Proofs
