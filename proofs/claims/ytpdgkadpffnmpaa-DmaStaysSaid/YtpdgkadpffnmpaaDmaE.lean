/- The engine of bursts: what stays; forks. -/
import Derived.Test.YtpdgkadpffnmpaaDmaD
import Derived.Test.YtpdgkadpffnmpaaMemLawC
set_option linter.all false
namespace Go.Proofs
open Go.Eng
set_option linter.unusedVariables false
set_option maxRecDepth 100000
set_option maxHeartbeats 2000000
theorem lay_same {M ys : List UInt8} {k j : Nat} (h : k + ys.length ≤ M.length) (hj : ¬ (k ≤ j ∧ j < k + ys.length)) : (lay M k ys).getD j 0 = M.getD j 0 := by
  rw [lay_getD h, if_neg hj]
theorem diff_lay {M ys : List UInt8} {k : Nat} (h : k + ys.length ≤ M.length) : ∀ y ∈ runF (max M.length (lay M k ys).length : Nat) (unl 0 M (lay M k ys)), isS y.1 y.2 ∧ (k : Int) ≤ y.1 ∧ y.2 ≤ k + ys.length := by
  intro y hy
  have hl := lay_len h
  have ho : RunsOf (max M.length (lay M k ys).length : Nat) (unl 0 M (lay M k ys)) _ := runs_ok
  have hi := ho.canon.is y hy
  have key : ∀ m : Int, 0 ≤ m → m < (max M.length (lay M k ys).length : Nat) → unl 0 M (lay M k ys) m → (k : Int) ≤ m ∧ m < k + ys.length := by
    intro m m1 m2 m3
    refine Classical.byContradiction fun hno => m3 ⟨by omega, by omega, ?_⟩
    rw [lay_same h (by omega)]
  obtain ⟨a1, a2, a3⟩ := (ho.same y.1).1 ⟨y, hy, by omega⟩
  obtain ⟨c1, c2, c3⟩ := (ho.same (y.2 - 1)).1 ⟨y, hy, by omega⟩
  have d1 := key _ a1 (by omega) a3
  have d2 := key _ c1 (by omega) c3
  exact ⟨hi, by omega, by omega⟩
theorem Try.refSpanF (xs : List Rg) (o : Int) (L : List HP) (hx : rgOk xs xs.length) : Con Try.prog 22 [rgV (fndF xs o).1 (fndF xs o).2.1 (fndF xs o).2.2] L (Is (spV (fndF xs o).2.1 ((fndF xs o).2.1 + (fndF xs o).2.2)) L) := by
  rcases fnd_may hx o with h | h
  · exact Try.refSpan5 _ _ _ L h
  · rw [h]; exact Try.refSpan5n L
theorem ask_in {xs : List Rg} {len : Nat} {o p n : Int} (hx : rgOk xs xs.length) (h : (askF xs len o p n).2 = 0) : (fndF xs o).2.1 ≤ (askF xs len o p n).1 ∧ (askF xs len o p n).1 + n ≤ (fndF xs o).2.1 + (fndF xs o).2.2 := by
  obtain ⟨_, hm, _⟩ := askF_ok hx h
  generalize (askF xs len o p n).1 = q at *
  unfold mapF at hm
  split at hm
  · exact absurd (congrArg Prod.snd hm) (by simp)
  · split at hm
    · exact absurd (congrArg Prod.snd hm) (by simp)
    · split at hm
      · exact absurd (congrArg Prod.snd hm) (by simp)
      · have := congrArg Prod.fst hm
        simp only at this
        omega
theorem Try.dmaStaysLaw (size : Int) (ax : Option Addr) (cx : Nat) (xs : List Rg) (t o p n : Int) (w : Bool) (s : ByteArray) (L : List HP) (hz : I64 size) (hx : ∀ x ∈ xs, rgB x) (hd : bdI (t, o, p, n, w, s)) (hs : s.size ≤ 9223372036854775807) (hcx : xs.length ≤ cx) (hm2 : cx ≤ 9223372036854775807) (hr : Rd rgE L ax xs) :
    Con Try.prog 4 [i64V size, .slice ax xs.length cx, bdV t o p n w s] L (Is (.bool true) L) := by
  obtain ⟨hd1, hd2, hd3, hd4⟩ := hd
  dsimp only at hd1 hd2 hd3 hd4
  have hfw := fun a L h h' => Try.dmaFew ax a cx 1 xs [(t, o, p, n, w, s)] L hx hcx (Nat.le_refl _) (by decide) hm2 h h'
  by_cases hF : FewP xs [(t, o, p, n, w, s)]
  · by_cases hs6 : size ≤ 600
    · have h8 := xs8_len xs
      have hr8 : Rd rgE L ax (xs8 xs) := hr.take _
      have hsz : s.size ≤ 200 := hF.texts 0 (by show 0 < 1; decide)
      have hrg := hF.rows
      have e1 : ds20 [(t, o, p, n, w, s)] = [(t, o, p, n, w, s)] := rfl
      simp only [hF, iff_true] at hfw
      simp only [e1] at hfw
      simp only [xs8] at *
      generalize List.take (min (xs.length : Int) 8).toNat xs = ys at *
      have hM0 : (zeros (min (max size 0) 16384).toNat).length ≤ 600 := by rw [List.length_replicate]; omega
      have hnw := fun L => Try.memNew size L hz
      have hrgn := fun L h => Try.regNew ax cx ys L h8 hrg h
      generalize zeros (min (max size 0) 16384).toNat = M at *
      have hss := size_list s
      have hwr := fun be bm bt m L => Try.dmaWrite be bm bt m 0 none [] (fun _ => 0) (fun _ => 0) ys t o p s M L (by decide) (fun h => (h rfl).elim) (Nat.le_refl _) hrg hd3 (by omega) (by omega) (fun i => ⟨by show (0 : Int) ≤ 0; decide, by show (0 : Int) ≤ 1000000000; decide⟩)
      have hfk := fun b L => Try.memFork b M L (by omega)
      have hfd := fun L h => Try.refFind ax cx ys o L h8 h
      have hsp := fun L => Try.refSpanF ys o L hrg
      simp only [Try.engP, List.cons_append, List.nil_append] at hwr
      by_cases h0 : (askF ys M.length o p s.size).2 = 0
      · obtain ⟨g1, g2, g3, g4, g5, g6⟩ := askF_ok hrg h0
        have hin := ask_in hrg h0
        simp only [if_pos h0] at hwr
        rw [h0] at hwr
        have er : recF [] t o p s.size true 0 = [] := rfl
        rw [er] at hwr
        generalize (askF ys M.length o p s.size).1 = q at *
        obtain ⟨k, rfl⟩ := Int.eq_ofNat_of_zero_le g3.1
        rw [Int.toNat_natCast] at hwr
        have hdl := diff_lay (M := M) (ys := s.data.toList) (k := k) (by omega)
        have hll := lay_len (xs := M) (ys := s.data.toList) (l := k) (by omega)
        have hdf := fun b b' L => Try.memDiff b b' M (lay M k s.data.toList) L (by omega) (by omega)
        have hRl : (runF (max M.length (lay M k s.data.toList).length : Nat) (unl 0 M (lay M k s.data.toList))).length ≤ max M.length (lay M k s.data.toList).length := runs_len runs_ok
        rw [hss] at hdl
        generalize runF (max M.length (lay M k s.data.toList).length : Nat) (unl 0 M (lay M k s.data.toList)) = R at *
        generalize lay M k s.data.toList = M2 at *
        generalize fndF ys o = f at *
        generalize ys.map kvR = kvs at *
        generalize upd (fun _ => (0 : Int)) o.toNat (0 + s.size) = nw2 at *
        refine con_of Try.tysOk Try.func4 rfl rfl ?_
        conv => whnf
        repeat' (first
          | (first | ((with_reducible refine Br.ff ?_); conv => whnf) | ((with_reducible refine Br.nt ?_); conv => whnf) | ((with_reducible refine Br.df ?_ ?_); (focus (first | assumption | omega)); conv => whnf))
          | ((with_reducible refine Nd.mk ?_ ?_); (focus (first | omega | rfl | assumption | (simp; done))); conv => whnf)
          | ((with_reducible refine Nc.go' (fun _ => ?_)); conv => whnf)
          | (first | (refine Ld.at 6 rfl rfl ?_; conv => whnf) | (refine Ld.at 8 rfl rfl ?_; conv => whnf))
          | (refine LdN.at 0 rfl (by first | exact Nat.le_of_ble_eq_true rfl | (simp; done)) ?_; conv => whnf)
          | (refine St.at 0 rfl (by first | exact Nat.le_of_ble_eq_true rfl | (simp; done)) rfl ?_; conv => whnf)
          | (first | ((with_reducible refine Cl.exs (hnw _) (fun bm _ => ?_)); conv => whnf) | ((refine Cl.exsAt2 2 rfl (fun M => hfk _ M) ?_); (conv => whnf); rintro b2 -; conv => whnf) | ((with_reducible refine Cl.exs (Try.dmaNew _ _ _) (fun be _ => ?_)); conv => whnf) | (apply (Cl.pre [ptc be _ _, ptc bt _ _, mapH m _ _, own recE 45 none 0 [], Try.memH bm _]); (focus ((repeat (first | exact FEnt.rfl | (refine FEnt.at 0 rfl ?_; (try simp only [List.eraseIdx_cons_zero, List.eraseIdx_cons_succ, List.eraseIdx_zero, List.tail_cons])) | (refine FEnt.at 1 rfl ?_; (try simp only [List.eraseIdx_cons_zero, List.eraseIdx_cons_succ, List.eraseIdx_zero, List.tail_cons])) | (refine FEnt.at 2 rfl ?_; (try simp only [List.eraseIdx_cons_zero, List.eraseIdx_cons_succ, List.eraseIdx_zero, List.tail_cons])) | (refine FEnt.at 3 rfl ?_; (try simp only [List.eraseIdx_cons_zero, List.eraseIdx_cons_succ, List.eraseIdx_zero, List.tail_cons])) | refine FEnt.nil ?_)); done)); refine Cl.exs (hwr _ _ _ _ _) ?_; rintro ⟨a2, c2⟩ ⟨hc2, had2⟩; conv => whnf) | (apply (Cl.pre [Try.memH b2 _, Try.memH bm _]); (focus (repeat (first | exact FEnt.rfl | (refine FEnt.at 1 rfl ?_; (try simp only [List.eraseIdx_cons_zero, List.eraseIdx_cons_succ, List.eraseIdx_zero, List.tail_cons])) | (refine FEnt.at 4 rfl ?_; (try simp only [List.eraseIdx_cons_zero, List.eraseIdx_cons_succ, List.eraseIdx_zero, List.tail_cons])) | (refine FEnt.at 5 rfl ?_; (try simp only [List.eraseIdx_cons_zero, List.eraseIdx_cons_succ, List.eraseIdx_zero, List.tail_cons])))); done); refine Cl.new (hdf _ _ _) (fun _ _ _ _ => ?_); conv => whnf) | ((with_reducible refine (?_ : Cl _ 23 _ _ _ _)); (refine Cl.is (hfd _ (by ((repeat (first | assumption | apply Rd.cons)); done))) ?_); conv => whnf) | ((with_reducible refine Cl.is (hsp _) ?_); conv => whnf))
          | ((refine Cl.exs (hfw _ _ (by ((repeat (first | assumption | apply Rd.cons)); done)) (Rd.ptc 0 rfl [(t, o, p, n, w, s)] rfl)) ?_; rintro b rfl); conv => whnf)
          | ((refine Cl.exs (hrgn _ (by ((repeat (first | assumption | apply Rd.cons)); done))) ?_; rintro ⟨bt, m⟩ -); conv => whnf))
        rename_i a3 c3 hc3 had3 b16
        conv => whnf
        refine Lp.by Try.tysOk [17] (fun (k : Nat) => [.int .i64 k]) (fun k => ptc b16 59 [i64V f.2.1, i64V (f.2.1 + f.2.2)] :: own spE 59 a3 c3 R :: L) (fun k => k ≤ R.length) (fun k => R.length - k) (0) (by kernel_rfl) (by (refine FEnt.ent ?_; (repeat (first | exact FEnt.rfl | (refine FEnt.at 0 rfl ?_; (try simp only [List.eraseIdx_cons_zero, List.eraseIdx_cons_succ, List.eraseIdx_zero, List.tail_cons])) | refine FEnt.drop ?_)); done)) (by omega) ?_
        rintro k2 f1
        conv => whnf
        repeat (intro _; conv => whnf)
        by_cases hk2 : k2 < R.length
        · have hin2 := hdl _ (getD_mem (d := spE.d) hk2)
          conv => whnf
          repeat' (first
            | (first | ((with_reducible refine Br.ff ?_); conv => whnf) | ((with_reducible refine Br.nt ?_); conv => whnf) | ((with_reducible refine Br.dt ?_ ?_); (focus (first | assumption | omega)); conv => whnf) | ((with_reducible refine Br.df ?_ ?_); (focus (first | assumption | omega)); conv => whnf) | ((with_reducible refine Br.ndf ?_ ?_); (focus (first | assumption | omega)); conv => whnf))
            | ((with_reducible refine Ar.i64 ?_ ?_); (focus omega); conv => whnf)
            | ((with_reducible refine Ix.ad ?_ ?_ ?_); (focus (assumption)); (focus (omega)); conv => whnf)
            | (first | ((first | (with_reducible apply Ld.rdk) | (with_reducible apply Ld.rdk0)); (focus ((repeat ((refine Rd.own 1 rfl ?_); (assumption))); done)); (focus rfl); (focus (omega)); (focus rfl); conv => whnf) | (refine Ld.at 0 rfl rfl ?_; conv => whnf))
            | ((with_reducible apply LdN.rdk); (focus ((repeat ((refine Rd.own 1 rfl ?_); (assumption))); done)); (focus rfl); (focus rfl); (focus (omega)); conv => whnf)
            | ((with_reducible refine Dr.by (id := 14) Try.tysOk rfl [(0, 0), (1, 0), (2, 0), (3, 0), (4, 0), (5, 0), (6, 1), (7, 1), (8, 0), (9, 0), (10, 0), (11, 0), (12, 0), (13, 0), (14, 0), (16, 0), (15, 1), (17, 1), (18, 0), (19, 0), (20, 0), (21, 0), (22, 0), (23, 0), (24, 0), (26, 0), (25, 1), (27, 1), (28, 0), (29, 0)] ?_ ?_); (focus kernel_rfl); conv => whnf)
            | ((with_reducible refine CD.is (fun M => Con.dt hin2.1 (Try.refIs _ _ _)) ?_); conv => whnf))
          all_goals exact ⟨k2 + 1, by kernel_rfl, by (exact Ent.rfl), by omega, by omega⟩
        · conv => whnf
          repeat' (first
            | ((with_reducible refine Br.df ?_ ?_); (focus (first | assumption | omega)); conv => whnf)
            | ((with_reducible refine Cl.is (Try.dmaLive _) ?_); conv => whnf))
          all_goals (refine Is.ent ?_ ?_; (focus (refine FEnt.ent ?_; (repeat (first | exact FEnt.rfl | refine FEnt.drop ?_)); done)); (exact Is.rfl))
      · simp only [if_neg h0] at hwr
        have hdf := fun b b' L => Con.newEq unl_self (Try.memDiff b b' M M L (by omega) (by omega))
        generalize (askF ys M.length o p s.size).2 = e at *
        generalize recF [] t o p s.size true e = rs2 at *
        generalize fndF ys o = f at *
        generalize ys.map kvR = kvs at *
        refine con_of Try.tysOk Try.func4 rfl rfl ?_
        conv => whnf
        repeat' (first
          | (first | ((with_reducible refine Br.ff ?_); conv => whnf) | ((with_reducible refine Br.nt ?_); conv => whnf) | ((with_reducible refine Br.df ?_ ?_); (focus (first | assumption | omega)); conv => whnf))
          | ((with_reducible refine Nd.mk ?_ ?_); (focus (first | omega | rfl | assumption | (simp; done))); conv => whnf)
          | ((with_reducible refine Nc.go' (fun _ => ?_)); conv => whnf)
          | (first | (refine Ld.at 6 rfl rfl ?_; conv => whnf) | (refine Ld.at 8 rfl rfl ?_; conv => whnf))
          | (refine LdN.at 0 rfl (by first | exact Nat.le_of_ble_eq_true rfl | (simp; done)) ?_; conv => whnf)
          | (refine St.at 0 rfl (by first | exact Nat.le_of_ble_eq_true rfl | (simp; done)) rfl ?_; conv => whnf)
          | (first | ((with_reducible refine Cl.exs (hnw _) (fun bm _ => ?_)); conv => whnf) | ((refine Cl.exsAt2 2 rfl (fun M => hfk _ M) ?_); (conv => whnf); rintro b2 -; conv => whnf) | ((with_reducible refine Cl.exs (Try.dmaNew _ _ _) (fun be _ => ?_)); conv => whnf) | (apply (Cl.pre [ptc be _ _, ptc bt _ _, mapH m _ _, own recE 45 none 0 [], Try.memH bm _]); (focus ((repeat (first | exact FEnt.rfl | (refine FEnt.at 0 rfl ?_; (try simp only [List.eraseIdx_cons_zero, List.eraseIdx_cons_succ, List.eraseIdx_zero, List.tail_cons])) | (refine FEnt.at 1 rfl ?_; (try simp only [List.eraseIdx_cons_zero, List.eraseIdx_cons_succ, List.eraseIdx_zero, List.tail_cons])) | (refine FEnt.at 2 rfl ?_; (try simp only [List.eraseIdx_cons_zero, List.eraseIdx_cons_succ, List.eraseIdx_zero, List.tail_cons])) | (refine FEnt.at 3 rfl ?_; (try simp only [List.eraseIdx_cons_zero, List.eraseIdx_cons_succ, List.eraseIdx_zero, List.tail_cons])) | refine FEnt.nil ?_)); done)); refine Cl.exs (hwr _ _ _ _ _) ?_; rintro ⟨a2, c2⟩ ⟨hc2, had2⟩; conv => whnf) | (apply (Cl.pre [Try.memH b2 _, Try.memH bm _]); (focus (repeat (first | exact FEnt.rfl | (refine FEnt.at 1 rfl ?_; (try simp only [List.eraseIdx_cons_zero, List.eraseIdx_cons_succ, List.eraseIdx_zero, List.tail_cons])) | (refine FEnt.at 4 rfl ?_; (try simp only [List.eraseIdx_cons_zero, List.eraseIdx_cons_succ, List.eraseIdx_zero, List.tail_cons])) | (refine FEnt.at 5 rfl ?_; (try simp only [List.eraseIdx_cons_zero, List.eraseIdx_cons_succ, List.eraseIdx_zero, List.tail_cons])))); done); refine Cl.new (hdf _ _ _) (fun _ _ _ _ => ?_); conv => whnf) | ((with_reducible refine (?_ : Cl _ 23 _ _ _ _)); (refine Cl.is (hfd _ (by ((repeat (first | assumption | apply Rd.cons)); done))) ?_); conv => whnf) | ((with_reducible refine Cl.is (hsp _) ?_); conv => whnf))
          | ((refine Cl.exs (hfw _ _ (by ((repeat (first | assumption | apply Rd.cons)); done)) (Rd.ptc 0 rfl [(t, o, p, n, w, s)] rfl)) ?_; rintro b rfl); conv => whnf)
          | ((refine Cl.exs (hrgn _ (by ((repeat (first | assumption | apply Rd.cons)); done))) ?_; rintro ⟨bt, m⟩ -); conv => whnf))
        conv => whnf
        refine Lp.by Try.tysOk [17] (fun (k : Nat) => [.int .i64 k]) (fun k => L) (fun k => k = 0) (fun k => 0) (0) (by kernel_rfl) (by (refine FEnt.ent ?_; (repeat (first | exact FEnt.rfl | refine FEnt.drop ?_)); done)) (rfl) ?_
        rintro k2 f1
        conv => whnf
        repeat (intro _; conv => whnf)
        subst f1
        conv => whnf
        repeat' (first
          | ((with_reducible refine Br.no ?_ ?_); (focus (first | (simp; done) | (simp; omega))); conv => whnf)
          | ((with_reducible refine Cl.is (Try.dmaLive _) ?_); conv => whnf))
        all_goals first | (refine Is.ent ?_ ?_; (focus (exact Ent.rfl)); (exact Is.rfl)) | (exfalso; simp_all; done)
    · simp only [hF, iff_true] at hfw
      refine con_of Try.tysOk Try.func4 rfl rfl ?_
      conv => whnf
      repeat' (first
        | (first | ((with_reducible refine Br.ff ?_); conv => whnf) | ((with_reducible refine Br.nt ?_); conv => whnf) | ((with_reducible refine Br.dt ?_ ?_); (focus (first | assumption | omega)); conv => whnf))
        | ((with_reducible refine Nd.mk ?_ ?_); (focus (first | omega | rfl | assumption | (simp; done))); conv => whnf)
        | ((with_reducible refine Nc.go' (fun _ => ?_)); conv => whnf)
        | (refine LdN.at 0 rfl (by first | exact Nat.le_of_ble_eq_true rfl | (simp; done)) ?_; conv => whnf)
        | ((with_reducible refine Cl.is (Try.dmaLive _) ?_); conv => whnf)
        | ((refine Cl.exs (hfw _ _ (by ((repeat (first | assumption | apply Rd.cons)); done)) (Rd.ptc 0 rfl [(t, o, p, n, w, s)] rfl)) ?_; rintro b rfl); conv => whnf))
      all_goals (refine Is.ent ?_ ?_; (focus (refine FEnt.ent ?_; (repeat (first | exact FEnt.rfl | refine FEnt.drop ?_)); done)); (exact Is.rfl))
  · simp only [hF, iff_false] at hfw
    refine con_of Try.tysOk Try.func4 rfl rfl ?_
    conv => whnf
    repeat' (first
      | (first | ((with_reducible refine Br.tt ?_); conv => whnf) | ((with_reducible refine Br.nf ?_); conv => whnf))
      | ((with_reducible refine Nd.mk ?_ ?_); (focus (first | omega | rfl | assumption | (simp; done))); conv => whnf)
      | ((with_reducible refine Nc.go' (fun _ => ?_)); conv => whnf)
      | (refine LdN.at 0 rfl (by first | exact Nat.le_of_ble_eq_true rfl | (simp; done)) ?_; conv => whnf)
      | ((with_reducible refine Cl.is (Try.dmaLive _) ?_); conv => whnf)
      | ((refine Cl.exs (hfw _ _ (by ((repeat (first | assumption | apply Rd.cons)); done)) (Rd.ptc 0 rfl [(t, o, p, n, w, s)] rfl)) ?_; rintro b hb; obtain rfl : b = false := (by simpa using hb)); conv => whnf))
    all_goals (refine Is.ent ?_ ?_; (focus (refine FEnt.ent ?_; (repeat (first | exact FEnt.rfl | refine FEnt.drop ?_)); done)); (exact Is.rfl))
end Go.Proofs
