/- The engine of bursts: forks. -/
import Derived.Test.YtpdgkadpffnmpaaDmaD
import Derived.Test.YtpdgkadpffnmpaaMemLawC
set_option linter.all false
namespace Go.Proofs
open Go.Eng
set_option linter.unusedVariables false
set_option maxRecDepth 100000
set_option maxHeartbeats 2000000
theorem Try.dmaForksLaw (size : Int) (ax : Option Addr) (cx : Nat) (xs : List Rg) (ad0 : Option Addr) (cd : Nat) (ds : List Bd) (L : List HP) (hz : I64 size) (hx : ∀ x ∈ xs, rgB x) (hd : ∀ d ∈ ds, bdI d) (hcx : xs.length ≤ cx) (hm2 : cx ≤ 9223372036854775807) (hr : Rd rgE L ax xs) (hcd : ds.length ≤ cd) (hm : cd ≤ 9223372036854775807) (hr2 : Rd bdE L ad0 ds) :
    Con Try.prog 5 [i64V size, .slice ax xs.length cx, .slice ad0 ds.length cd] L (Is (.bool true) L) := by
  have hfw := fun L h h' => Try.dmaFew ax ad0 cx cd xs ds L hx hcx hcd hm hm2 h h'
  by_cases hP : FewP xs ds ∧ size ≤ 600
  · have h8 := xs8_len xs
    have h20 := ds20_len ds
    have hd20 : ∀ d ∈ ds20 ds, bdI d := fun d h => hd d (List.mem_of_mem_take h)
    have hr8 : Rd rgE L ax (xs8 xs) := hr.take _
    have hr20 : Rd bdE L ad0 (ds20 ds) := hr2.take _
    have htx := hP.1.texts
    have hrg := hP.1.rows
    simp only [hP.1, iff_true] at hfw
    simp only [xs8, ds20] at *
    generalize List.take (min (xs.length : Int) 8).toNat xs = ys at *
    generalize List.take (min (ds.length : Int) 20).toNat ds = es at *
    have hM0 : (zeros (min (max size 0) 16384).toNat).length ≤ 600 := by rw [List.length_replicate]; omega
    have hnw := fun L => Try.memNew size L hz
    have hrn := fun L => Try.refNew size L hz
    have hrgn := fun L h => Try.regNew ax cx ys L h8 hrg h
    generalize zeros (min (max size 0) 16384).toNat = M0 at *
    have hiM0 := ints_len M0
    have hfk := fun b L => Try.memFork b M0 L (by omega)
    have hef := fun be bm bt bm2 L => Try.dmaFork be bm bt 0 bm2 none [] (fun _ => 0) (fun _ => 0) L (by decide) (fun h => (h rfl).elim)
    refine con_of Try.tysOk Try.func5 rfl rfl ?_
    conv => whnf
    repeat' (first
      | (first | ((with_reducible refine Br.ff ?_); conv => whnf) | ((with_reducible refine Br.nt ?_); conv => whnf) | ((with_reducible refine Br.sn ?_); conv => whnf) | ((with_reducible refine Br.df ?_ ?_); (focus (first | assumption | omega)); conv => whnf))
      | ((with_reducible refine Nd.mk ?_ ?_); (focus (first | omega | rfl | assumption | (simp; done))); conv => whnf)
      | (first | ((with_reducible refine Cl.exs (hnw _) (fun bm _ => ?_)); conv => whnf) | ((with_reducible refine Cl.exs (Try.dmaNew _ _ _) (fun be _ => ?_)); conv => whnf) | ((refine Cl.exsAt2 3 rfl (fun M => hfk _ M) ?_); (conv => whnf); rintro b2 -; conv => whnf) | (apply (Cl.pre [ptc be _ _, own recE 45 none 0 []]); (focus ((repeat (first | exact FEnt.rfl | (refine FEnt.at 2 rfl ?_; (try simp only [List.eraseIdx_cons_zero, List.eraseIdx_cons_succ, List.eraseIdx_zero, List.tail_cons])) | refine FEnt.nil ?_)); done)); refine Cl.exs (hef _ _ _ _ _) ?_; rintro ⟨bf, af, cf⟩ ⟨hcf, hadf⟩; conv => whnf))
      | ((refine Cl.exs (hfw _ (by ((repeat (assumption)); done)) (by ((repeat (assumption)); done))) ?_; rintro b rfl); conv => whnf)
      | ((refine Cl.exs (hrgn _ (by ((repeat (first | assumption | apply Rd.cons)); done))) ?_; rintro ⟨bt, m⟩ -); conv => whnf))
    conv => whnf
    refine Lp.by3 Try.tysOk [14] (fun (k : Nat) (Q : List UInt8 × List Rec × (Nat → Int)) (x : Option Addr × Nat) => [.int .i64 k]) (fun k Q x => ptc bf 79 (engC b2 bt x.1 Q.2.1.length x.2 (fun _ => 0) Q.2.2) :: ptc bt 74 [.map (some m)] :: mapH m (.int .i64) (ys.map kvR) :: own recE 45 x.1 x.2 Q.2.1 :: Try.memH b2 Q.1 :: ptc be 79 (engC bm bt none 0 0 (fun _ => 0) (fun _ => 0)) :: Try.memH bm M0 :: L) (fun k Q x => k ≤ es.length ∧ Q.2.1.length ≤ k ∧ Q.1.length = M0.length ∧ (∀ i, 0 ≤ Q.2.2 i ∧ Q.2.2 i ≤ 100 * k) ∧ Q.2.1.length ≤ x.2 ∧ Ad x.1 Q.2.1.length) (fun k Q x => es.length - k) (0) (((M0, [], (fun _ => 0)) : List UInt8 × List Rec × (Nat → Int))) (((af, cf) : Option Addr × Nat)) (by kernel_rfl) (by (refine FEnt.ent ?_; (repeat (first | exact FEnt.rfl | (refine FEnt.at 0 rfl ?_; (try simp only [List.eraseIdx_cons_zero, List.eraseIdx_cons_succ, List.eraseIdx_zero, List.tail_cons])) | (refine FEnt.at 1 rfl ?_; (try simp only [List.eraseIdx_cons_zero, List.eraseIdx_cons_succ, List.eraseIdx_zero, List.tail_cons])) | (refine FEnt.at 2 rfl ?_; (try simp only [List.eraseIdx_cons_zero, List.eraseIdx_cons_succ, List.eraseIdx_zero, List.tail_cons])) | (refine FEnt.at 5 rfl ?_; (try simp only [List.eraseIdx_cons_zero, List.eraseIdx_cons_succ, List.eraseIdx_zero, List.tail_cons])) | refine FEnt.drop ?_)); done)) (⟨by omega, Nat.le_refl _, rfl, fun i => ⟨by show (0 : Int) ≤ 0; decide, by show (0 : Int) ≤ _; omega⟩, hcf, hadf⟩) ?_
    rintro k ⟨M, rs, nw⟩ ⟨a, c⟩ ⟨h1, h3, h4, h6, h7, h8'⟩
    conv => whnf
    repeat (intro _; conv => whnf)
    dsimp only at h1 h3 h4 h6 h7 h8'
    by_cases hk : k < es.length
    · have hdk := hd20 _ (getD_mem (d := bdE.d) hk)
      have htk := htx k hk
      have hnwb : ∀ i, 0 ≤ nw i ∧ nw i ≤ 1000000000 := fun i => by have := h6 i; omega
      have hdo := fun A ab cb L h h9 h10 => Try.dmaDoW bf b2 bt m c a rs (fun _ => 0) nw ys ax cx (es.getD k bdE.d).1 (es.getD k bdE.d).2.1 (es.getD k bdE.d).2.2.1 0 true (es.getD k bdE.d).2.2.2.2.2 M M0 A ab cb L rfl (by omega) h8' h7 h8 hrg hdk.2.2.1 ⟨by decide, by decide⟩ (by omega) (by omega) h4.symm hnwb h h10 h9
      have hrl := recF_len rs (es.getD k bdE.d).1 (es.getD k bdE.d).2.1 (es.getD k bdE.d).2.2.1 (es.getD k bdE.d).2.2.2.2.2.size true (askF ys M.length (es.getD k bdE.d).2.1 (es.getD k bdE.d).2.2.1 (es.getD k bdE.d).2.2.2.2.2.size).2
      have hll : (if (askF ys M.length (es.getD k bdE.d).2.1 (es.getD k bdE.d).2.2.1 (es.getD k bdE.d).2.2.2.2.2.size).2 = 0 then lay M (askF ys M.length (es.getD k bdE.d).2.1 (es.getD k bdE.d).2.2.1 (es.getD k bdE.d).2.2.2.2.2.size).1.toNat (es.getD k bdE.d).2.2.2.2.2.data.toList else M).length = M0.length := by
        split
        · rename_i h0
          obtain ⟨g1, g2, g3, g4, g5, g6⟩ := askF_ok hrg h0
          rw [lay_len' (by rw [size_list]; exact g3)]; exact h4
        · exact h4
      have hub : ∀ i, 0 ≤ (if (askF ys M.length (es.getD k bdE.d).2.1 (es.getD k bdE.d).2.2.1 (es.getD k bdE.d).2.2.2.2.2.size).2 = 0 then upd nw (es.getD k bdE.d).2.1.toNat (nw (es.getD k bdE.d).2.1.toNat + (es.getD k bdE.d).2.2.2.2.2.size) else nw) i ∧ (if (askF ys M.length (es.getD k bdE.d).2.1 (es.getD k bdE.d).2.2.1 (es.getD k bdE.d).2.2.2.2.2.size).2 = 0 then upd nw (es.getD k bdE.d).2.1.toNat (nw (es.getD k bdE.d).2.1.toNat + (es.getD k bdE.d).2.2.2.2.2.size) else nw) i ≤ 100 * (k + 1 : Nat) := by
        split
        · rename_i h0
          obtain ⟨g1, g2, g3, g4, g5, g6⟩ := askF_ok hrg h0
          exact upd_bd h6 (by have := h6 (es.getD k bdE.d).2.1.toNat; omega)
        · exact bd_next h6
      simp only [Try.engP, List.cons_append, List.nil_append] at hdo
      generalize (if (askF ys M.length (es.getD k bdE.d).2.1 (es.getD k bdE.d).2.2.1 (es.getD k bdE.d).2.2.2.2.2.size).2 = 0 then upd nw (es.getD k bdE.d).2.1.toNat (nw (es.getD k bdE.d).2.1.toNat + (es.getD k bdE.d).2.2.2.2.2.size) else nw) = nw2 at *
      generalize (if (askF ys M.length (es.getD k bdE.d).2.1 (es.getD k bdE.d).2.2.1 (es.getD k bdE.d).2.2.2.2.2.size).2 = 0 then lay M (askF ys M.length (es.getD k bdE.d).2.1 (es.getD k bdE.d).2.2.1 (es.getD k bdE.d).2.2.2.2.2.size).1.toNat (es.getD k bdE.d).2.2.2.2.2.data.toList else M) = M2 at *
      generalize (if (askF ys M.length (es.getD k bdE.d).2.1 (es.getD k bdE.d).2.2.1 (es.getD k bdE.d).2.2.2.2.2.size).2 = 0 then lay M0 (askF ys M.length (es.getD k bdE.d).2.1 (es.getD k bdE.d).2.2.1 (es.getD k bdE.d).2.2.2.2.2.size).1.toNat (es.getD k bdE.d).2.2.2.2.2.data.toList else M0) = M3 at *
      generalize recF rs (es.getD k bdE.d).1 (es.getD k bdE.d).2.1 (es.getD k bdE.d).2.2.1 (es.getD k bdE.d).2.2.2.2.2.size true (askF ys M.length (es.getD k bdE.d).2.1 (es.getD k bdE.d).2.2.1 (es.getD k bdE.d).2.2.2.2.2.size).2 = rs2 at *
      generalize (askF ys M.length (es.getD k bdE.d).2.1 (es.getD k bdE.d).2.2.1 (es.getD k bdE.d).2.2.2.2.2.size).2 = e at *
      generalize ys.map kvR = kvs at *
      by_cases ho : 0 ≤ (es.getD k bdE.d).2.1 ∧ (es.getD k bdE.d).2.1 ≤ 8
      · have hmv := fun L => Try.dmaMoved be bm bt 0 0 none (es.getD k bdE.d).2.1 (fun _ => 0) (fun _ => 0) L ho
        conv => whnf
        repeat' (first
          | (first | ((with_reducible refine Br.ff ?_); conv => whnf) | ((with_reducible refine Br.nt ?_); conv => whnf) | ((with_reducible refine Br.dt ?_ ?_); (focus (first | assumption | omega)); conv => whnf) | ((with_reducible refine Br.ndf ?_ ?_); (focus (first | assumption | omega)); conv => whnf))
          | ((with_reducible refine Ar.i64 ?_ ?_); (focus omega); conv => whnf)
          | ((with_reducible refine Nd.mk ?_ ?_); (focus (first | omega | rfl | assumption | (simp; done))); conv => whnf)
          | ((with_reducible refine Nc.go' (fun _ => ?_)); conv => whnf)
          | ((with_reducible refine Ix.ad ?_ ?_ ?_); (focus (exact Rd.ad (by assumption))); (focus (omega)); conv => whnf)
          | (first | (refine Ld.at 0 rfl rfl ?_; conv => whnf) | (refine Ld.at 6 rfl rfl ?_; conv => whnf))
          | ((with_reducible apply LdN.rdk); (focus ((repeat (first | assumption | apply Rd.cons)); done)); (focus rfl); (focus rfl); (focus (omega)); conv => whnf)
          | (refine St.at 0 rfl (by first | exact Nat.le_of_ble_eq_true rfl | (simp; done)) rfl ?_; conv => whnf)
          | ((with_reducible refine Dr.by (id := 15) Try.tysOk rfl [(0, 0), (1, 0), (2, 0), (4, 0), (6, 0), (8, 0), (10, 0), (5, 1), (7, 1), (9, 1), (11, 1), (12, 0), (3, 4), (13, 3), (14, 0), (15, 0), (16, 0), (17, 0), (18, 0), (19, 0), (20, 0)] ?_ ?_); (focus kernel_rfl); conv => whnf)
          | ((with_reducible refine CN.new (fun M => hrn _) (fun _ _ _ _ => ?_)); conv => whnf)
          | (first | ((with_reducible refine (?_ : Cl _ 12 _ _ _ _)); ((apply (Cl.pre [ptc bf _ _, ptc bt _ _, mapH m _ _, own recE _ a c rs, Try.memH b2 M, own intE _ _ _ _]); (focus ((repeat (first | exact FEnt.rfl | (refine FEnt.at 2 rfl ?_; (try simp only [List.eraseIdx_cons_zero, List.eraseIdx_cons_succ, List.eraseIdx_zero, List.tail_cons])))); done)); refine Cl.exs (hdo _ _ _ _ (by ((repeat (first | assumption | apply Rd.cons)); done)) (Rd.own 0 rfl (by assumption)) (by assumption)) ?_; rintro ⟨⟨a2, c2⟩, A3, a3, c3⟩ ⟨⟨hc2, had2⟩, hb⟩)); conv => whnf) | ((with_reducible refine Cl.is (Try.dmaReadNil _ _ _ _ _) ?_); conv => whnf) | ((with_reducible refine Cl.is (Try.dmaWriteNil _ _ _ _ _) ?_); conv => whnf) | ((refine Cl.isAt 7 rfl (hmv _) ?_); conv => whnf)))
        all_goals exact ⟨k + 1, (M2, rs2, nw2), (a2, c2), by kernel_rfl, by (try dsimp only); (refine FEnt.ent ?_; (repeat (first | exact FEnt.rfl | (refine FEnt.at 0 rfl ?_; (try simp only [List.eraseIdx_cons_zero, List.eraseIdx_cons_succ, List.eraseIdx_zero, List.tail_cons])) | (refine FEnt.at 2 rfl ?_; (try simp only [List.eraseIdx_cons_zero, List.eraseIdx_cons_succ, List.eraseIdx_zero, List.tail_cons])) | refine FEnt.drop ?_)); done), ⟨by omega, by (try dsimp only); omega, hll, hub, hc2, had2⟩, by omega⟩
      · have hmv := fun L => Try.dmaMovedNo be (engC bm bt none 0 0 (fun _ => 0) (fun _ => 0)) (es.getD k bdE.d).2.1 L ho
        conv => whnf
        repeat' (first
          | (first | ((with_reducible refine Br.ff ?_); conv => whnf) | ((with_reducible refine Br.nt ?_); conv => whnf) | ((with_reducible refine Br.dt ?_ ?_); (focus (first | assumption | omega)); conv => whnf) | ((with_reducible refine Br.ndf ?_ ?_); (focus (first | assumption | omega)); conv => whnf))
          | ((with_reducible refine Ar.i64 ?_ ?_); (focus omega); conv => whnf)
          | ((with_reducible refine Nd.mk ?_ ?_); (focus (first | omega | rfl | assumption | (simp; done))); conv => whnf)
          | ((with_reducible refine Nc.go' (fun _ => ?_)); conv => whnf)
          | ((with_reducible refine Ix.ad ?_ ?_ ?_); (focus (exact Rd.ad (by assumption))); (focus (omega)); conv => whnf)
          | (first | (refine Ld.at 0 rfl rfl ?_; conv => whnf) | (refine Ld.at 6 rfl rfl ?_; conv => whnf))
          | ((with_reducible apply LdN.rdk); (focus ((repeat (first | assumption | apply Rd.cons)); done)); (focus rfl); (focus rfl); (focus (omega)); conv => whnf)
          | (refine St.at 0 rfl (by first | exact Nat.le_of_ble_eq_true rfl | (simp; done)) rfl ?_; conv => whnf)
          | ((with_reducible refine Dr.by (id := 15) Try.tysOk rfl [(0, 0), (1, 0), (2, 0), (4, 0), (6, 0), (8, 0), (10, 0), (5, 1), (7, 1), (9, 1), (11, 1), (12, 0), (3, 4), (13, 3), (14, 0), (15, 0), (16, 0), (17, 0), (18, 0), (19, 0), (20, 0)] ?_ ?_); (focus kernel_rfl); conv => whnf)
          | ((with_reducible refine CN.new (fun M => hrn _) (fun _ _ _ _ => ?_)); conv => whnf)
          | (first | ((with_reducible refine (?_ : Cl _ 12 _ _ _ _)); ((apply (Cl.pre [ptc bf _ _, ptc bt _ _, mapH m _ _, own recE _ a c rs, Try.memH b2 M, own intE _ _ _ _]); (focus ((repeat (first | exact FEnt.rfl | (refine FEnt.at 2 rfl ?_; (try simp only [List.eraseIdx_cons_zero, List.eraseIdx_cons_succ, List.eraseIdx_zero, List.tail_cons])))); done)); refine Cl.exs (hdo _ _ _ _ (by ((repeat (first | assumption | apply Rd.cons)); done)) (Rd.own 0 rfl (by assumption)) (by assumption)) ?_; rintro ⟨⟨a2, c2⟩, A3, a3, c3⟩ ⟨⟨hc2, had2⟩, hb⟩)); conv => whnf) | ((with_reducible refine Cl.is (Try.dmaReadNil _ _ _ _ _) ?_); conv => whnf) | ((with_reducible refine Cl.is (Try.dmaWriteNil _ _ _ _ _) ?_); conv => whnf) | ((refine Cl.isAt 7 rfl (hmv _) ?_); conv => whnf)))
        all_goals exact ⟨k + 1, (M2, rs2, nw2), (a2, c2), by kernel_rfl, by (try dsimp only); (refine FEnt.ent ?_; (repeat (first | exact FEnt.rfl | (refine FEnt.at 0 rfl ?_; (try simp only [List.eraseIdx_cons_zero, List.eraseIdx_cons_succ, List.eraseIdx_zero, List.tail_cons])) | (refine FEnt.at 2 rfl ?_; (try simp only [List.eraseIdx_cons_zero, List.eraseIdx_cons_succ, List.eraseIdx_zero, List.tail_cons])) | refine FEnt.drop ?_)); done), ⟨by omega, by (try dsimp only); omega, hll, hub, hc2, had2⟩, by omega⟩
    · have hdf := fun b b' L => Con.newEq unl_self (Try.memDiff b b' M0 M0 L (by omega) (by omega))
      have hrc := fun L => Try.dmaRecords be bm bt 0 none [] (fun _ => 0) (fun _ => 0) L (by decide) (fun h => (h rfl).elim)
      conv => whnf
      repeat' (first
        | (first | ((with_reducible refine Br.tt ?_); conv => whnf) | ((with_reducible refine Br.nn ?_); conv => whnf) | ((with_reducible refine Br.df ?_ ?_); (focus (first | assumption | omega)); conv => whnf) | ((with_reducible refine Br.yes ?_ ?_); (focus (first | (simp; done) | (simp; omega))); conv => whnf))
        | (first | ((with_reducible refine Cl.is (Try.dmaLive _) ?_); conv => whnf) | (apply (Cl.pre [ptc be _ _, own recE 45 none 0 []]); (focus (repeat (first | exact FEnt.rfl | (refine FEnt.at 1 rfl ?_; (try simp only [List.eraseIdx_cons_zero, List.eraseIdx_cons_succ, List.eraseIdx_zero, List.tail_cons])) | (refine FEnt.at 2 rfl ?_; (try simp only [List.eraseIdx_cons_zero, List.eraseIdx_cons_succ, List.eraseIdx_zero, List.tail_cons])) | (refine FEnt.at 4 rfl ?_; (try simp only [List.eraseIdx_cons_zero, List.eraseIdx_cons_succ, List.eraseIdx_zero, List.tail_cons])) | (refine FEnt.at 5 rfl ?_; (try simp only [List.eraseIdx_cons_zero, List.eraseIdx_cons_succ, List.eraseIdx_zero, List.tail_cons])) | refine FEnt.nil ?_)); done); refine Cl.new (hrc _) (fun _ _ _ _ => ?_); conv => whnf) | ((with_reducible refine Cl.exs (hnw _) (fun b9 _ => ?_)); conv => whnf) | (apply (Cl.pre [Try.memH bm _, Try.memH b9 _]); (focus (repeat (first | exact FEnt.rfl | (refine FEnt.at 1 rfl ?_; (try simp only [List.eraseIdx_cons_zero, List.eraseIdx_cons_succ, List.eraseIdx_zero, List.tail_cons])) | (refine FEnt.at 9 rfl ?_; (try simp only [List.eraseIdx_cons_zero, List.eraseIdx_cons_succ, List.eraseIdx_zero, List.tail_cons])))); done); refine Cl.new (hdf _ _ _) (fun _ _ _ _ => ?_); conv => whnf) | ((with_reducible refine Cl.is (Try.dmaForkNil _ _) ?_); conv => whnf) | ((with_reducible refine Cl.new (Try.dmaRecordsNil _) (fun _ _ _ _ => ?_)); conv => whnf)))
      all_goals (refine Is.ent ?_ ?_; (focus (refine FEnt.ent ?_; (repeat (first | exact FEnt.rfl | refine FEnt.drop ?_)); done)); (exact Is.rfl))
  · by_cases hF : FewP xs ds
    · simp only [hF, iff_true] at hfw
      have hs6 : ¬ size ≤ 600 := fun h => hP ⟨hF, h⟩
      refine con_of Try.tysOk Try.func5 rfl rfl ?_
      conv => whnf
      repeat' (first
        | (first | ((with_reducible refine Br.ff ?_); conv => whnf) | ((with_reducible refine Br.nt ?_); conv => whnf) | ((with_reducible refine Br.dt ?_ ?_); (focus (first | assumption | omega)); conv => whnf))
        | ((with_reducible refine Nd.mk ?_ ?_); (focus (first | omega | rfl | assumption | (simp; done))); conv => whnf)
        | ((with_reducible refine Cl.is (Try.dmaLive _) ?_); conv => whnf)
        | ((refine Cl.exs (hfw _ (by ((repeat (assumption)); done)) (by ((repeat (assumption)); done))) ?_; rintro b rfl); conv => whnf))
      all_goals (refine Is.ent ?_ ?_; (focus (exact Ent.rfl)); (exact Is.rfl))
    · simp only [hF, iff_false] at hfw
      refine con_of Try.tysOk Try.func5 rfl rfl ?_
      conv => whnf
      repeat' (first
        | (first | ((with_reducible refine Br.tt ?_); conv => whnf) | ((with_reducible refine Br.nf ?_); conv => whnf))
        | ((with_reducible refine Nd.mk ?_ ?_); (focus (first | omega | rfl | assumption | (simp; done))); conv => whnf)
        | ((with_reducible refine Cl.is (Try.dmaLive _) ?_); conv => whnf)
        | ((refine Cl.exs (hfw _ (by ((repeat (assumption)); done)) (by ((repeat (assumption)); done))) ?_; rintro b hb; obtain rfl : b = false := (by simpa using hb)); conv => whnf))
      all_goals (refine Is.ent ?_ ?_; (focus (exact Ent.rfl)); (exact Is.rfl))
end Go.Proofs
