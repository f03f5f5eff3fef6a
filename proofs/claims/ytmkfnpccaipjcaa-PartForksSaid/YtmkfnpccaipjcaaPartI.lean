/- The partition's laws: forks. -/
import Derived.Test.YtmkfnpccaipjcaaPartG
import Derived.Test.YtmkfnpccaipjcaaMemDiff
import Derived.Test.YtmkfnpccaipjcaaEngMore
set_option linter.all false
namespace Go.Proofs
open Go.Eng
set_option linter.unusedVariables false
set_option maxRecDepth 100000
set_option maxHeartbeats 2000000
theorem Try.partForksLaw (s : ByteArray) (a0 : Option Addr) (c0 : Nat) (ds : List PDeed) (a1 : Option Addr) (c1 : Nat) (es : List PDeed) (L : List HP) (hd : ∀ d ∈ ds, fctI d.2) (he : ∀ d ∈ es, fctI d.2) (hc0 : ds.length ≤ c0) (hm0 : c0 ≤ 9223372036854775807) (hr0 : Rd pdE L a0 ds)
    (hc1 : es.length ≤ c1) (hm1 : c1 ≤ 9223372036854775807) (hr1 : Rd pdE L a1 es) :
    Con Try.prog 5 [.string s, .slice a0 ds.length c0, .slice a1 es.length c1] L (Is (.bool true) L) := by
  by_cases hg : s.size ≤ 200
  · obtain ⟨pre, hpre, hpl⟩ := zeros_ex 50
    obtain ⟨post, hpost, hql⟩ := zeros_ex 30
    have hVl := lay0_len (N := 220) (s := s) (by omega)
    have hnw := fun L => Try.memNewP 300 50 220 30 L (by omega) (by omega)
    have hzN : (zeros 220).length = 220 := List.length_replicate
    rw [hpre, hpost] at hnw
    have hxz := seg_len2 hpl hzN hql
    have hpn := fun b L => Try.parNew b pre (zeros 220) post 50 220 1 s L (by omega) (by omega) (by omega) ⟨by omega, by omega⟩ (by omega)
    have hrn : ∀ L, _ := fun L => Try.refNew27 s 220 L (by omega) (by omega)
    clear hpre hpost
    generalize lay (zeros 220) 0 s.data.toList = V0 at *
    generalize zeros 220 = Z at *
    refine con_of Try.tysOk Try.func5 rfl rfl ?_
    conv => whnf
    repeat' (first
      | (first | ((with_reducible refine Br.df ?_ ?_); (focus (first | assumption | omega)); conv => whnf) | ((with_reducible refine Br.ndf ?_ ?_); (focus (first | assumption | omega)); conv => whnf))
      | ((with_reducible refine Nd.mk ?_ ?_); (focus (first | omega | rfl | assumption | (simp; done))); conv => whnf)
      | ((with_reducible refine Nc.go' (fun _ => ?_)); conv => whnf)
      | (refine St.at 0 rfl (by first | exact Nat.le_of_ble_eq_true rfl | (simp; done)) rfl ?_; conv => whnf)
      | (first | ((with_reducible refine (?_ : Cl _ 12 _ _ _ _)); (refine Cl.exs (hnw _) (fun bm _ => ?_)); conv => whnf) | ((refine Cl.exsAt2 0 rfl (fun M => hpn _ M) ?_); (conv => whnf); rintro bp -; conv => whnf) | ((with_reducible refine (?_ : Cl _ 13 _ _ _ _)); (refine Cl.exs (hrn _) ?_; rintro ⟨a, c⟩ ⟨hc, had⟩; dsimp only at hc had); conv => whnf)))
    rename_i b10
    conv => whnf
    refine Lp.cut3 Try.tysOk 0 [11] (fun (k : Nat) (q : Mch) (x : HP × Option Addr × Nat) => [.int .i64 k]) (fun k q x => ptc b10 44 (.slice x.2.1 (ints q.V).length x.2.2 :: stC q.pc q.r q.m) :: ptc bp 79 (parC bm 50 220 1 q) :: Try.memH bm (pre ++ q.V ++ post) :: x.1 :: L) (fun k q x => k ≤ ds.length ∧ Mok q ∧ q.V.length = 220 ∧ Rd intE [x.1] x.2.1 (ints q.V) ∧ (ints q.V).length ≤ x.2.2) (fun k q x => Mok q ∧ q.V.length = 220 ∧ Rd intE [x.1] x.2.1 (ints q.V) ∧ (ints q.V).length ≤ x.2.2) (fun k q x => 40 - k) (0) ((⟨V0, 0, fun _ => 0, 0⟩ : Mch)) ((own intE 3 a c (ints V0), a, c)) (by kernel_rfl) (by (refine FEnt.ent ?_; (repeat (first | exact FEnt.rfl | (refine FEnt.at 0 rfl ?_; (try simp only [List.eraseIdx_cons_zero, List.eraseIdx_cons_succ, List.eraseIdx_zero, List.tail_cons])) | (refine FEnt.at 1 rfl ?_; (try simp only [List.eraseIdx_cons_zero, List.eraseIdx_cons_succ, List.eraseIdx_zero, List.tail_cons])))); done)) (⟨by omega, m0_ok (by omega), hVl, Rd.own 0 rfl had, hc⟩) ?_ ?_
    · rintro k q ⟨A, a2, c2⟩ ⟨h1, hq, h3, h4, h5⟩
      conv => whnf
      repeat (intro _; conv => whnf)
      dsimp only at h4 h5
      have hx := seg_len2 hpl h3 hql
      by_cases hk : k < ds.length ∧ k < 40
      · have hdk := hd _ (getD_mem (d := pdE.d) hk.1)
        have hlen := do_len q (ds.getD k pdE.d)
        have hdo := fun L => Try.parDo bp bm pre post 50 220 1 A a2 c2 (ds.getD k pdE.d) q L (by omega) (by omega) (by omega) hq hdk h5 h4
        have hq2 := do_ok (d := ds.getD k pdE.d) hq
        generalize doF q (ds.getD k pdE.d) = q2 at *
        conv => whnf
        repeat' (first
          | (first | ((with_reducible refine Br.tt ?_); conv => whnf) | ((with_reducible refine Br.dt ?_ ?_); (focus (first | assumption | omega)); conv => whnf))
          | ((with_reducible refine Ar.i64 ?_ ?_); (focus omega); conv => whnf)
          | ((with_reducible refine Nd.mk ?_ ?_); (focus (first | omega | rfl | assumption | (simp; done))); conv => whnf)
          | ((with_reducible refine Ix.ad ?_ ?_ ?_); (focus (exact Rd.ad (by assumption))); (focus (omega)); conv => whnf)
          | (first | ((with_reducible apply LdN.rdk); (focus ((repeat (first | assumption | apply Rd.cons)); done)); (focus rfl); (focus rfl); (focus (omega)); conv => whnf) | (refine LdN.at 0 rfl (by first | exact Nat.le_of_ble_eq_true rfl | (simp; done)) ?_; conv => whnf))
          | (refine St.at 3 rfl (by first | exact Nat.le_of_ble_eq_true rfl | (simp; done)) rfl ?_; conv => whnf)
          | ((with_reducible refine Dr.by (id := 11) Try.tysOk rfl [(0, 0), (2, 0), (3, 0), (4, 0), (1, 1), (5, 1), (6, 3), (7, 0), (8, 0), (9, 0), (10, 3)] ?_ ?_); (focus kernel_rfl); conv => whnf)
          | (apply (Cl.pre [ptc bp _ _, Try.memH bm _, A]); (focus ((repeat (first | exact FEnt.rfl | (refine FEnt.at 1 rfl ?_; (try simp only [List.eraseIdx_cons_zero, List.eraseIdx_cons_succ, List.eraseIdx_zero, List.tail_cons])))); done)); refine Cl.exs (hdo _) ?_; rintro ⟨A3, a3, c3⟩ hb; conv => whnf))
        all_goals exact ⟨k + 1, q2, (A3, a3, c3), by kernel_rfl, by (refine FEnt.ent ?_; (repeat (first | exact FEnt.rfl | (refine FEnt.at 3 rfl ?_; (try simp only [List.eraseIdx_cons_zero, List.eraseIdx_cons_succ, List.eraseIdx_zero, List.tail_cons])))); done), ⟨by omega, hq2, hlen.trans h3, hb.read, hb.cap⟩, by omega⟩
      · conv => whnf
        repeat' (first
          | (first | ((with_reducible refine Br.tt ?_); conv => whnf) | ((with_reducible refine Br.ff ?_); conv => whnf) | ((with_reducible refine Br.df ?_ ?_); (focus (first | assumption | omega)); conv => whnf))
          | ((with_reducible refine Br.ds (fun _ => ?_) (fun _ => ?_) ) <;> (conv => whnf)))
        all_goals exact ⟨k, q, (A, a2, c2), by kernel_rfl, by (exact Ent.rfl), ⟨hq, h3, h4, h5⟩⟩
    · rintro k q ⟨A, a2, c2⟩ ⟨hq, h3, h4, h5⟩
      conv => whnf
      repeat (intro _; conv => whnf)
      dsimp only at h4 h5
      have hx := seg_len2 hpl h3 hql
      have hfk := fun L => Try.memFork bm (pre ++ q.V ++ post) L (by omega)
      conv => whnf
      repeat' (first
        | ((with_reducible refine Br.sn ?_); conv => whnf)
        | ((with_reducible refine Nd.mk ?_ ?_); (focus (first | omega | rfl | assumption | (simp; done))); conv => whnf)
        | ((with_reducible refine Nc.go' (fun _ => ?_)); conv => whnf)
        | (refine LdN.at 4 rfl (by first | exact Nat.le_of_ble_eq_true rfl | (simp; done)) ?_; conv => whnf)
        | (refine St.at 0 rfl (by first | exact Nat.le_of_ble_eq_true rfl | (simp; done)) rfl ?_; conv => whnf)
        | (first | ((refine Cl.exsAt2 2 rfl (fun M => hfk M) ?_); (conv => whnf); rintro bf -; conv => whnf) | ((refine Cl.exsAt2 3 rfl (fun M => Try.parFork bp bm bf 50 220 1 q M) ?_); (conv => whnf); rintro bn -; conv => whnf)))
      rename_i b13
      conv => whnf
      refine Lp.cut3 Try.tysOk 2 [14] (fun (k : Nat) (q2 : Mch) (x : HP × Option Addr × Nat) => [.int .i64 k]) (fun k q2 x => ptc b13 44 (.slice x.2.1 (ints q2.V).length x.2.2 :: stC q2.pc q2.r q2.m) :: ptc b10 44 (.slice a2 (ints q.V).length c2 :: stC q.pc q.r q.m) :: ptc bn 79 (parC bf 50 220 1 q2) :: Try.memH bf (pre ++ q2.V ++ post) :: ptc bp 79 (parC bm 50 220 1 q) :: Try.memH bm (pre ++ q.V ++ post) :: x.1 :: L) (fun k q2 x => k ≤ es.length ∧ Mok q2 ∧ q2.V.length = 220 ∧ Rd intE [x.1] x.2.1 (ints q2.V) ∧ (ints q2.V).length ≤ x.2.2 ∧ Rd intE [x.1] a2 (ints q.V)) (fun k q2 x => Mok q2 ∧ q2.V.length = 220 ∧ Rd intE [x.1] x.2.1 (ints q2.V) ∧ (ints q2.V).length ≤ x.2.2 ∧ Rd intE [x.1] a2 (ints q.V)) (fun k q2 x => 40 - k) (0) (q) ((A, a2, c2)) (by kernel_rfl) (by (refine FEnt.ent ?_; (repeat (first | exact FEnt.rfl | (refine FEnt.at 0 rfl ?_; (try simp only [List.eraseIdx_cons_zero, List.eraseIdx_cons_succ, List.eraseIdx_zero, List.tail_cons])) | (refine FEnt.at 1 rfl ?_; (try simp only [List.eraseIdx_cons_zero, List.eraseIdx_cons_succ, List.eraseIdx_zero, List.tail_cons])) | (refine FEnt.at 4 rfl ?_; (try simp only [List.eraseIdx_cons_zero, List.eraseIdx_cons_succ, List.eraseIdx_zero, List.tail_cons])))); done)) (⟨by omega, hq, h3, h4, h5, h4⟩) ?_ ?_
      · rintro k q2 ⟨A4, a4, c4⟩ ⟨g1, gq, g3, g4, g5, g6⟩
        conv => whnf
        repeat (intro _; conv => whnf)
        dsimp only at g4 g5 g6
        have gx := seg_len2 hpl g3 hql
        by_cases hk : k < es.length ∧ k < 40
        · have hdk := he _ (getD_mem (d := pdE.d) hk.1)
          have hlen := do_len q2 (es.getD k pdE.d)
          have hdo := fun L => Try.parDo bn bf pre post 50 220 1 A4 a4 c4 (es.getD k pdE.d) q2 L (by omega) (by omega) (by omega) gq hdk g5 g4
          have hq2 := do_ok (d := es.getD k pdE.d) gq
          generalize doF q2 (es.getD k pdE.d) = q3 at *
          conv => whnf
          repeat' (first
            | (first | ((with_reducible refine Br.tt ?_); conv => whnf) | ((with_reducible refine Br.nt ?_); conv => whnf) | ((with_reducible refine Br.dt ?_ ?_); (focus (first | assumption | omega)); conv => whnf))
            | ((with_reducible refine Ar.i64 ?_ ?_); (focus omega); conv => whnf)
            | ((with_reducible refine Nd.mk ?_ ?_); (focus (first | omega | rfl | assumption | (simp; done))); conv => whnf)
            | ((with_reducible refine Ix.ad ?_ ?_ ?_); (focus (exact Rd.ad (by assumption))); (focus (omega)); conv => whnf)
            | (first | ((with_reducible apply LdN.rdk); (focus ((repeat (first | assumption | apply Rd.cons)); done)); (focus rfl); (focus rfl); (focus (omega)); conv => whnf) | (refine LdN.at 0 rfl (by first | exact Nat.le_of_ble_eq_true rfl | (simp; done)) ?_; conv => whnf))
            | (refine St.at 3 rfl (by first | exact Nat.le_of_ble_eq_true rfl | (simp; done)) rfl ?_; conv => whnf)
            | ((with_reducible refine Dr.by (id := 20) Try.tysOk rfl [(0, 0), (2, 0), (3, 0), (4, 0), (1, 1), (5, 1), (6, 3), (7, 0), (8, 0), (9, 0), (10, 3), (11, 0)] ?_ ?_); (focus kernel_rfl); conv => whnf)
            | (apply (Cl.pre [ptc bn _ _, Try.memH bf _, A4]); (focus ((repeat (first | exact FEnt.rfl | (refine FEnt.at 2 rfl ?_; (try simp only [List.eraseIdx_cons_zero, List.eraseIdx_cons_succ, List.eraseIdx_zero, List.tail_cons])) | (refine FEnt.at 4 rfl ?_; (try simp only [List.eraseIdx_cons_zero, List.eraseIdx_cons_succ, List.eraseIdx_zero, List.tail_cons])))); done)); refine Cl.exs (hdo _) ?_; rintro ⟨A3, a3, c3⟩ hb; conv => whnf))
          all_goals exact ⟨k + 1, q3, (A3, a3, c3), by kernel_rfl, by (refine FEnt.ent ?_; (repeat (first | exact FEnt.rfl | (refine FEnt.at 0 rfl ?_; (try simp only [List.eraseIdx_cons_zero, List.eraseIdx_cons_succ, List.eraseIdx_zero, List.tail_cons])) | (refine FEnt.at 1 rfl ?_; (try simp only [List.eraseIdx_cons_zero, List.eraseIdx_cons_succ, List.eraseIdx_zero, List.tail_cons])) | (refine FEnt.at 3 rfl ?_; (try simp only [List.eraseIdx_cons_zero, List.eraseIdx_cons_succ, List.eraseIdx_zero, List.tail_cons])))); done), ⟨by omega, hq2, hlen.trans g3, hb.read, hb.cap, g6.ent hb.keeps⟩, by omega⟩
        · conv => whnf
          repeat' (first
            | (first | ((with_reducible refine Br.tt ?_); conv => whnf) | ((with_reducible refine Br.ff ?_); conv => whnf) | ((with_reducible refine Br.df ?_ ?_); (focus (first | assumption | omega)); conv => whnf))
            | ((with_reducible refine Br.ds (fun _ => ?_) (fun _ => ?_) ) <;> (conv => whnf)))
          all_goals exact ⟨k, q2, (A4, a4, c4), by kernel_rfl, by (exact Ent.rfl), ⟨gq, g3, g4, g5, g6⟩⟩
      · rintro k q2 ⟨A4, a4, c4⟩ ⟨gq, g3, g4, g5, g6⟩
        conv => whnf
        repeat (intro _; conv => whnf)
        dsimp only at g4 g5 g6
        have gx := seg_len2 hpl g3 hql
        have hs1 := fun L h => Try.parSame bp bm pre post 50 220 1 a2 c2 q L (by omega) (by omega) (by omega) hq h
        have hs2 := fun L h => Try.parSame bn bf pre post 50 220 1 a4 c4 q2 L (by omega) (by omega) (by omega) gq h
        have hnil : (([] : List Mk6).length : Int) = 0 := rfl
        conv => whnf
        repeat' (first
          | (first | ((with_reducible refine Br.tt ?_); conv => whnf) | ((with_reducible refine Br.nf ?_); conv => whnf) | ((with_reducible refine Br.nn ?_); conv => whnf) | ((with_reducible refine Br.dt ?_ ?_); (focus (first | assumption | omega)); conv => whnf) | ((with_reducible refine Br.yes ?_ ?_); (focus (first | (simp; done) | (simp; omega))); conv => whnf))
          | ((with_reducible refine Ar.i64 ?_ ?_); (focus omega); conv => whnf)
          | ((with_reducible refine Nd.mk ?_ ?_); (focus (first | omega | rfl | assumption | (simp; done))); conv => whnf)
          | (refine Eqs.is rfl (by kernel_rfl) ?_; conv => whnf)
          | (first | (refine LdN.at 1 rfl (by first | exact Nat.le_of_ble_eq_true rfl | (simp; done)) ?_; conv => whnf) | (refine LdN.at 2 rfl (by first | exact Nat.le_of_ble_eq_true rfl | (simp; done)) ?_; conv => whnf))
          | (first | ((with_reducible refine Cl.is (Try.partLive _) ?_); conv => whnf) | ((with_reducible refine Cl.is (Try.parStepNil (0, 0, 0, 0, 0) _) ?_); conv => whnf) | (apply (Cl.pre [ptc bp _ _, Try.memH bm _]); (focus (repeat (first | exact FEnt.rfl | (refine FEnt.at 2 rfl ?_; (try simp only [List.eraseIdx_cons_zero, List.eraseIdx_cons_succ, List.eraseIdx_zero, List.tail_cons])) | (refine FEnt.at 3 rfl ?_; (try simp only [List.eraseIdx_cons_zero, List.eraseIdx_cons_succ, List.eraseIdx_zero, List.tail_cons])) | (refine FEnt.at 4 rfl ?_; (try simp only [List.eraseIdx_cons_zero, List.eraseIdx_cons_succ, List.eraseIdx_zero, List.tail_cons])))); done); refine Cl.is (hs1 _ (by ((repeat (first | exact Rd.hd (by assumption) | apply Rd.cons)); done))) ?_; conv => whnf) | (apply (Cl.pre [ptc bn _ _, Try.memH bf _]); (focus (repeat (first | exact FEnt.rfl | (refine FEnt.at 1 rfl ?_; (try simp only [List.eraseIdx_cons_zero, List.eraseIdx_cons_succ, List.eraseIdx_zero, List.tail_cons])) | (refine FEnt.at 4 rfl ?_; (try simp only [List.eraseIdx_cons_zero, List.eraseIdx_cons_succ, List.eraseIdx_zero, List.tail_cons])))); done); refine Cl.is (hs2 _ (by ((repeat (first | exact Rd.hd (by assumption) | apply Rd.cons)); done))) ?_; conv => whnf) | ((with_reducible refine Cl.new (Try.parOpenNil _ _ _) (fun _ _ _ _ => ?_)); conv => whnf) | ((with_reducible refine Cl.is (Try.parOwnerNil _) ?_); conv => whnf) | ((with_reducible refine Cl.is (Try.parTextNil _) ?_); conv => whnf) | ((with_reducible refine Cl.is (Try.parForkNil _ _) ?_); conv => whnf) | ((with_reducible refine Cl.is (Try.parStateNil _) ?_); conv => whnf)))
        all_goals (refine Is.ent ?_ ?_; (focus (refine FEnt.ent ?_; (repeat (first | exact FEnt.rfl | refine FEnt.drop ?_)); done)); (exact Is.rfl))
  · refine con_of Try.tysOk Try.func5 rfl rfl ?_
    conv => whnf
    repeat' (first
      | ((with_reducible refine Br.dt ?_ ?_); (focus (first | assumption | omega)); conv => whnf)
      | ((with_reducible refine Cl.is (Try.partLive _) ?_); conv => whnf))
    all_goals (refine Is.ent ?_ ?_; (focus (exact Ent.rfl)); (exact Is.rfl))
end Go.Proofs
