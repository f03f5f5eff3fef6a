/- The memory's laws: forks. -/
import Derived.Test.YtcecnoeeabehdaaMemLawC
set_option linter.all false
namespace Go.Proofs
open Go.Eng
set_option linter.unusedVariables false
set_option maxRecDepth 100000
set_option maxHeartbeats 2000000
theorem Try.memForksLaw (size : Int) (a0 : Option Addr) (c0 : Nat) (ds : List Deed) (a1 : Option Addr) (c1 : Nat) (more : List Deed) (L : List HP) (hz : I64 size) (hd : ∀ d ∈ ds, deedI d) (hd1 : ∀ d ∈ more, deedI d)
    (hc : ds.length ≤ c0) (hm : c0 ≤ 9223372036854775807) (hr : Rd deedE L a0 ds) (hc1 : more.length ≤ c1) (hm1 : c1 ≤ 9223372036854775807) (hr1 : Rd deedE L a1 more) :
    Con Try.prog 5 [i64V size, .slice a0 ds.length c0, .slice a1 more.length c1] L (Is (.bool true) L) := by
  by_cases hf : size ≤ 400 ∧ ∀ d ∈ ds, d.2.2.2.size ≤ 300
  · by_cases hg : size ≤ 400 ∧ ∀ d ∈ more, d.2.2.2.size ≤ 300
    · have hX : (playF (newB size) (ds.take 40)).length ≤ 400 := by rw [playF_len]; exact newB_len hf.1
      have hi := ints_len (playF (newB size) (ds.take 40))
      have hnl : (([] : List Sp).length : Int) = 0 := rfl
      refine con_of Try.tysOk Try.func5 rfl rfl ?_
      conv => whnf
      repeat' (first
        | (first | ((with_reducible refine Br.ff ?_); conv => whnf) | ((with_reducible refine Br.nt ?_); conv => whnf) | ((with_reducible refine Br.sn ?_); conv => whnf) | ((with_reducible refine Br.ndf ?_ ?_); (focus (first | assumption | omega)); conv => whnf))
        | ((with_reducible refine Nd.mk ?_ ?_); (focus (first | omega | rfl | assumption | (simp; done))); conv => whnf)
        | (first | ((with_reducible refine Cl.is (Con.dt hf (Try.few _ _ _ _ _ hc hm hr)) ?_); conv => whnf) | ((with_reducible refine Cl.is (Con.dt hg (Try.few _ _ _ _ _ hc1 hm1 hr1)) ?_); conv => whnf) | ((refine Cl.new (Con.newAt (perm_at2 1 0 rfl rfl) (Con.newEq unl_self (Try.memDiff _ _ (playF (newB size) (ds.take 40)) (playF (newB size) (ds.take 40)) _ (by omega) (by omega)))) (fun _ _ _ _ => ?_)); conv => whnf))
        | ((refine Cl.exs (Try.played size a0 c0 ds _ hz hf.1 hd hf.2 (by omega) (by ((repeat (assumption)); done))) ?_; rintro ⟨b, A, a, c⟩ ⟨g1, g2⟩; dsimp only at g1 g2); conv => whnf)
        | ((refine Cl.exs (Try.memFork _ (playF (newB size) (ds.take 40)) _ (by omega)) (fun b2 _ => ?_)); conv => whnf))
      generalize playF (newB size) (ds.take 40) = X at *
      conv => whnf
      refine Lp.by3 Try.tysOk [12, 11] (fun (k : Nat) (Y : List UInt8) (x : HP × Option Addr × Nat) => [.int .i64 k, .slice x.2.1 (ints Y).length x.2.2]) (fun k Y x => Try.memH b2 Y :: x.1 :: Try.memH b X :: L) (fun k Y x => k ≤ more.length ∧ k ≤ 40 ∧ Y = playF X (more.take k) ∧ Rd intE [x.1] x.2.1 (ints Y) ∧ Rd intE [x.1] a (ints X) ∧ (ints Y).length ≤ x.2.2) (fun k Y x => 40 - k) (0) (X) ((A, a, c)) (by kernel_rfl) (by (refine FEnt.ent ?_; (repeat (first | exact FEnt.rfl | (refine FEnt.at 1 rfl ?_; (try simp only [List.eraseIdx_cons_zero, List.eraseIdx_cons_succ, List.eraseIdx_zero, List.tail_cons])) | (refine FEnt.at 2 rfl ?_; (try simp only [List.eraseIdx_cons_zero, List.eraseIdx_cons_succ, List.eraseIdx_zero, List.tail_cons])) | refine FEnt.drop ?_)); done)) (⟨by omega, by omega, rfl, g1, g1, g2⟩) ?_
      rintro k Y ⟨A2, a2, c2⟩ ⟨h1, h2, h3, h4, h5, h6⟩
      conv => whnf
      repeat (intro _; conv => whnf)
      have hY : Y.length ≤ 400 := by rw [h3, playF_len]; exact hX
      have hiY := ints_len Y
      dsimp only at h4 h5 h6
      by_cases hk : k < more.length ∧ k < 40
      · have hst := playF_take (xs := X) hk.1
        rw [← h3] at hst
        have hdk := hd1 _ (getD_mem (d := deedE.d) hk.1)
        have htk := hg.2 _ (getD_mem (d := deedE.d) hk.1)
        by_cases hw : 0 ≤ (more.getD k deedE.d).1 ∧ (more.getD k deedE.d).1 < 3
        · have e : dstep Y (more.getD k deedE.d) = wroteF Y (more.getD k deedE.d) := if_pos hw
          rw [e] at hst
          have hwl := wroteF_len Y (more.getD k deedE.d)
          conv => whnf
          repeat' (first
            | (first | ((with_reducible refine Br.tt ?_); conv => whnf) | ((with_reducible refine Br.nt ?_); conv => whnf) | ((with_reducible refine Br.dt ?_ ?_); (focus (first | assumption | omega)); conv => whnf))
            | ((with_reducible refine Ar.i64 ?_ ?_); (focus omega); conv => whnf)
            | ((with_reducible refine Nd.mk ?_ ?_); (focus (first | omega | rfl | assumption | (simp; done))); conv => whnf)
            | ((with_reducible refine Ix.ad ?_ ?_ ?_); (focus (exact Rd.ad (by assumption))); (focus (omega)); conv => whnf)
            | ((with_reducible apply Ld.rdk0); (focus ((repeat (first | assumption | apply Rd.cons)); done)); (focus rfl); (focus (omega)); (focus rfl); conv => whnf)
            | ((with_reducible apply LdN.rdk); (focus ((repeat (first | assumption | apply Rd.cons)); done)); (focus rfl); (focus rfl); (focus (omega)); conv => whnf)
            | ((refine Cl.exs (Try.wrote b2 Y A2 a2 c2 (more.getD k deedE.d) (Try.memH b X :: L) (by omega) hdk htk h6 h4) ?_; rintro ⟨A3, a3, c3⟩ hb); conv => whnf))
          refine ⟨k + 1, wroteF Y (more.getD k deedE.d), (A3, a3, c3), by kernel_rfl, by (exact Ent.rfl), ⟨by omega, by omega, hst.symm, hb.read, h5.ent hb.keeps, hb.cap⟩, by omega⟩
        · have e : dstep Y (more.getD k deedE.d) = Y := if_neg hw
          rw [e] at hst
          conv => whnf
          repeat' (first
            | (first | ((with_reducible refine Br.tt ?_); conv => whnf) | ((with_reducible refine Br.ff ?_); conv => whnf) | ((with_reducible refine Br.dt ?_ ?_); (focus (first | assumption | omega)); conv => whnf) | ((with_reducible refine Br.df ?_ ?_); (focus (first | assumption | omega)); conv => whnf))
            | ((with_reducible refine Ar.i64 ?_ ?_); (focus omega); conv => whnf)
            | ((with_reducible refine Ix.ad ?_ ?_ ?_); (focus (exact Rd.ad (by assumption))); (focus (omega)); conv => whnf)
            | ((with_reducible apply Ld.rdk0); (focus ((repeat (first | assumption | apply Rd.cons)); done)); (focus rfl); (focus (omega)); (focus rfl); conv => whnf)
            | ((with_reducible refine Br.ds (fun _ => ?_) (fun _ => ?_) ) <;> (conv => whnf)))
          all_goals exact ⟨k + 1, Y, (A2, a2, c2), by kernel_rfl, by (exact Ent.rfl), ⟨by omega, by omega, hst.symm, h4, h5, h6⟩, by omega⟩
      · have hR : runF (max X.length Y.length : Nat) (unl 0 X Y) = runF (max (ints X).length (ints Y).length : Nat) (unl 0 (ints X) (ints Y)) := by rw [hi, hiY, unl_ints]
        have hRl : (runF (max (ints X).length (ints Y).length : Nat) (unl 0 (ints X) (ints Y))).length ≤ max (ints X).length (ints Y).length := runs_len runs_ok
        have hdf : ∀ L, Con Try.prog 18 [pV b, pV b2] (Try.memH b X :: Try.memH b2 Y :: L) (New spE 59 (runF (max (ints X).length (ints Y).length : Nat) (unl 0 (ints X) (ints Y))) (Try.memH b X :: Try.memH b2 Y :: L)) := fun L => Con.newEq hR (Try.memDiff b b2 X Y L (by omega) (by omega))
        have hds : ∀ a c a' c' L, Rd intE L a (ints X) → Rd intE L a' (ints Y) → Con Try.prog 19 [.slice a (ints X).length c, .slice a' (ints Y).length c'] L (New spE 59 (runF (max (ints X).length (ints Y).length : Nat) (unl 0 (ints X) (ints Y))) L) := fun a c a' c' L h1 h2 => Try.refDiff a a' c c' (ints X) (ints Y) L (by omega) (by omega) h1 h2
        have hR0 : (runF (max (ints X).length (ints Y).length : Nat) (unl 0 (ints X) (ints Y))).length ≤ 1000000 := by omega
        clear hR hRl
        generalize runF (max (ints X).length (ints Y).length : Nat) (unl 0 (ints X) (ints Y)) = R at *
        have hsm : ∀ a c a' c' L, Rd spE L a R → Rd spE L a' R → Con Try.prog 17 [.slice a R.length c, .slice a' R.length c'] L (Is (.bool true) L) := fun a c a' c' L h1 h2 => Con.dt rfl (Try.refSame a c R a' c' R L (by omega) h1 h2)
        have htx : ∀ a c L, Rd intE L a (ints X) → Con Try.prog 12 [.slice a (ints X).length c, i64V 0, i64V (ints X).length] L (Is (.string ⟨((X.take (0 + X.length)).drop 0).toArray⟩) L) := fun a c L h => Try.refTextB a c 0 X.length 0 _ X L (by omega) rfl (by omega) (by omega) h
        have hmt : ∀ L, Con Try.prog 10 [pV b, i64V 0, i64V X.length] (Try.memH b X :: L) (Is (.tuple #[.string ⟨((X.take (0 + X.length)).drop 0).toArray⟩, i64V 0]) (Try.memH b X :: L)) := fun L => Try.memText b X 0 X.length 0 _ L (by omega) rfl rfl (by omega)
        generalize (⟨((X.take (0 + X.length)).drop 0).toArray⟩ : ByteArray) = S at *
        have hS : S = S := rfl
        conv => whnf
        repeat' (first
          | (first | ((with_reducible refine Br.tt ?_); conv => whnf) | ((with_reducible refine Br.ff ?_); conv => whnf) | ((with_reducible refine Br.dt ?_ ?_); (focus (first | assumption | omega)); conv => whnf) | ((with_reducible refine Br.df ?_ ?_); (focus (first | assumption | omega)); conv => whnf))
          | ((with_reducible refine Nd.mk ?_ ?_); (focus (first | omega | rfl | assumption | (simp; done))); conv => whnf)
          | (first | ((with_reducible refine Cl.is (Try.memLive _) ?_); conv => whnf) | ((refine Cl.isAt 2 rfl (Try.memSize _ _ _) ?_); conv => whnf) | ((refine Cl.isAt 2 rfl (hmt _) ?_); conv => whnf) | ((with_reducible refine (?_ : Cl _ 12 _ _ _ _)); (refine Cl.is (htx _ _ _ (by ((repeat (first | exact Rd.hd (by assumption) | apply Rd.cons)); done))) ?_); conv => whnf) | ((with_reducible refine (?_ : Cl _ 18 _ _ _ _)); (refine Cl.new (Con.newAt (perm_at2 2 0 rfl rfl) (hdf _)) (fun _ _ _ _ => ?_)); conv => whnf) | ((with_reducible refine (?_ : Cl _ 19 _ _ _ _)); (refine Cl.new (hds _ _ _ _ _ (by ((repeat (first | exact Rd.hd (by assumption) | apply Rd.cons)); done)) (by ((repeat (first | exact Rd.hd (by assumption) | apply Rd.cons)); done))) (fun _ _ _ _ => ?_)); conv => whnf) | ((with_reducible refine (?_ : Cl _ 17 _ _ _ _)); (refine Cl.is (hsm _ _ _ _ _ (by ((repeat ((refine Rd.own 1 rfl ?_); (assumption))); done)) (by ((repeat ((refine Rd.own 0 rfl ?_); (assumption))); done))) ?_); conv => whnf))
          | ((with_reducible refine Br.ds (fun _ => ?_) (fun _ => ?_) ) <;> (conv => whnf)))
        all_goals (refine Is.ent ?_ ?_; (focus (refine FEnt.ent ?_; (repeat (first | exact FEnt.rfl | refine FEnt.drop ?_)); done)); (exact Is.rfl))
    · refine con_of Try.tysOk Try.func5 rfl rfl ?_
      conv => whnf
      repeat' (first
        | (first | ((with_reducible refine Br.ff ?_); conv => whnf) | ((with_reducible refine Br.nt ?_); conv => whnf) | ((with_reducible refine Br.nf ?_); conv => whnf))
        | (first | ((with_reducible refine Cl.is (Con.dt hf (Try.few _ _ _ _ _ hc hm hr)) ?_); conv => whnf) | ((with_reducible refine Cl.is (Con.df hg (Try.few _ _ _ _ _ hc1 hm1 hr1)) ?_); conv => whnf) | ((with_reducible refine Cl.is (Try.memLive _) ?_); conv => whnf)))
      all_goals (refine Is.ent ?_ ?_; (focus (exact Ent.rfl)); (exact Is.rfl))
  · refine con_of Try.tysOk Try.func5 rfl rfl ?_
    conv => whnf
    repeat' (first
      | (first | ((with_reducible refine Br.tt ?_); conv => whnf) | ((with_reducible refine Br.nf ?_); conv => whnf))
      | (first | ((with_reducible refine Cl.is (Con.df hf (Try.few _ _ _ _ _ hc hm hr)) ?_); conv => whnf) | ((with_reducible refine Cl.is (Try.memLive _) ?_); conv => whnf)))
    all_goals (refine Is.ent ?_ ?_; (focus (exact Ent.rfl)); (exact Is.rfl))
end Go.Proofs
