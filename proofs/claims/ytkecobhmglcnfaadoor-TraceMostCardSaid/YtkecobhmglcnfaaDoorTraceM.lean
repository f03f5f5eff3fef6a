/- The document's reader of a text; printed marks; parsed texts: the statements. -/
import Derived.Test.YtkecobhmglcnfaaDoorTraceL
import Derived.Test.YtkecobhmglcnfaaDoorTraceB
set_option linter.all false
namespace Go.Proofs
open Go.Eng
open Classical
set_option linter.unusedVariables false
set_option maxRecDepth 100000
set_option maxHeartbeats 4000000
theorem qs_at {qs : List (List UInt8)} {k : Nat} (hk : k < qs.length) : (qs.map bsL).getD k strE.d = bsL (qs.getD k []) := by
  simp [List.getD, hk]
theorem qs_drop {qs : List (List UInt8)} {k : Nat} (hk : k < qs.length) : qs.drop k = qs.getD k [] :: qs.drop (k + 1) := by
  rw [List.drop_eq_getElem_cons hk]
  simp [List.getD, hk]
theorem Tryd.refParse33 (s : ByteArray) (xs : List Mrk) (n e : Int) (L : List HP) (hs : s.size ≤ 1000000) (hR : prsF s.data.toList = (xs, n, e)) :
    Con Tryd.prog 23 [.string s] L (PrsP xs n e L) := by
  have hl := size_list s
  obtain ⟨qs, hqs⟩ : ∃ qs, splL 10 s.data.toList = qs := ⟨_, rfl⟩
  have hq1 : 1 ≤ qs.length := by rw [← hqs]; simp [splL]
  have hq2 : qs.length ≤ s.size + 1 := by
    have := (spl_len 10 s.data.toList).2.2
    rw [← hqs]
    simp only [splL, List.length_cons]
    omega
  have hq3 : ∀ k, (qs.getD k []).length ≤ s.size := fun k => by
    by_cases hk : k < qs.length
    · have hm : qs[k] ∈ splL 10 s.data.toList := by rw [hqs]; exact List.getElem_mem _
      have e : qs.getD k [] = qs[k] := by simp [List.getD, hk]
      rw [e]
      obtain ⟨h1, h2, _⟩ := spl_len 10 s.data.toList
      rcases List.mem_cons.1 hm with h | h
      · rw [h]; omega
      · have := h2 _ h; omega
    · rw [List.getD_eq_getElem?_getD, List.getElem?_eq_none (by omega)]
      exact Nat.zero_le _
  have hR0 : prsA [] (qs.getD 0 []) (qs.drop 1) = (xs, n, e) := by rw [← hqs]; exact hR
  have hsp : ∀ L, Con Tryd.prog 43 [.string s, z8 10] L (New strE 9 (qs.map bsL) L) := fun L => by have := Tryd.refSplit 10 s L (by omega); rw [hqs] at this; exact this
  have hwl : (qs.map bsL).length = qs.length := List.length_map _
  have hwa := fun k (hk : k < qs.length) => qs_at (qs := qs) hk
  generalize qs.map bsL = ws at *
  clear hqs hR
  refine con_of Tryd.tysOk Tryd.func23 rfl rfl ?_
  conv => whnf
  repeat' (first
    | ((with_reducible refine Nc.go' (fun _ => ?_)); conv => whnf)
    | ((with_reducible refine Cl.new (hsp _) (fun _ _ _ _ => ?_)); conv => whnf))
  rename_i aw cw hcw hdw b12
  conv => whnf
  refine Lp.by2 Tryd.tysOk [7, 6] (fun (k : Nat) (P : Option Addr × Nat × List Mrk) => [.int .i64 k, .slice P.1 P.2.2.length P.2.1]) (fun k P => own mrE 29 P.1 P.2.1 P.2.2 :: own strE 9 aw cw ws :: L) (fun k P => (k < qs.length ∧ k ≤ 4096) ∧ (P.2.2.length = k ∧ prsA P.2.2 (qs.getD k []) (qs.drop (k + 1)) = (xs, n, e) ∧ P.2.2.length ≤ P.2.1 ∧ Ad P.1 P.2.2.length)) (fun k P => qs.length - k) (0) (((some ⟨b12, 0, none⟩, 0, []) : Option Addr × Nat × List Mrk)) (by kernel_rfl) (by (refine FEnt.ent ?_; (repeat (first | exact FEnt.rfl | (refine FEnt.own0 0 rfl ?_; (try simp only [List.eraseIdx_cons_zero, List.eraseIdx_cons_succ, List.eraseIdx_zero, List.tail_cons])))); done)) (⟨⟨by omega, by omega⟩, ⟨rfl, hR0, by simp, fun _ => rfl⟩⟩) ?_
  rintro k ⟨a, c, ys⟩ ⟨⟨g0, g1⟩, g2, g3, g4, g5⟩
  conv => whnf
  repeat (intro _; conv => whnf)
  dsimp only at g2 g3 g4 g5
  have hak := hwa k g0
  have hqk := hq3 k
  by_cases hk : k + 1 < qs.length
  · rw [qs_drop hk, prs_more] at g3
    have hrd := fun L => Tryd.refRead33 (bsL (qs.getD k [])) L (by rw [bsL_size]; omega)
    rw [← hak] at hrd
    have el : (ws.getD k strE.d).data.toList = qs.getD k [] := by rw [hak]
    rw [el] at hrd
    by_cases ho : rdOk (qs.getD k [])
    · rw [if_pos ho] at g3
      rw [decide_eq_true ho, rfV_ok ho] at hrd
      by_cases h4 : k = 4096
      · rw [if_pos (by omega)] at g3
        simp only [Prod.mk.injEq] at g3
        obtain ⟨rfl, rfl, rfl⟩ := g3
        rw [g2]
        clear hwa hq3 hR0 el hak
        conv => whnf
        repeat' (first
          | (first | ((with_reducible refine Br.nt ?_); conv => whnf) | ((with_reducible refine Br.dt ?_ ?_); (focus (first | assumption | omega)); conv => whnf))
          | ((with_reducible refine Ar.i64 ?_ ?_); (focus omega); conv => whnf)
          | ((with_reducible refine Nd.mk ?_ ?_); (focus (first | omega | rfl | assumption | (simp; done))); conv => whnf)
          | ((with_reducible refine Nc.go' (fun _ => ?_)); conv => whnf)
          | ((with_reducible refine Ix.ad ?_ ?_ ?_); (focus (assumption)); (focus (omega)); conv => whnf)
          | ((with_reducible apply Ld.rdk0); (focus ((repeat ((refine Rd.own 1 rfl ?_); (assumption))); done)); (focus rfl); (focus (omega)); (focus rfl); conv => whnf)
          | (refine St.at 0 rfl (by first | exact Nat.le_of_ble_eq_true rfl | (simp; done)) rfl ?_; conv => whnf)
          | ((with_reducible refine Cl.is (hrd _) ?_); conv => whnf))
        all_goals first | exact PrsP.nil (by (refine FEnt.ent ?_; (repeat (first | exact FEnt.rfl | refine FEnt.drop ?_)); done)) | (exfalso; omega)
      · rw [if_neg (by omega)] at g3
        clear hwa hq3 hR0 el hak
        conv => whnf
        repeat' (first
          | (first | ((with_reducible refine Br.nt ?_); conv => whnf) | ((with_reducible refine Br.dt ?_ ?_); (focus (first | assumption | omega)); conv => whnf) | ((with_reducible refine Br.df ?_ ?_); (focus (first | assumption | omega)); conv => whnf))
          | ((with_reducible refine Ar.i64 ?_ ?_); (focus omega); conv => whnf)
          | ((with_reducible refine Nd.mk ?_ ?_); (focus (first | omega | rfl | assumption | (simp; done))); conv => whnf)
          | ((with_reducible refine Nc.go' (fun _ => ?_)); conv => whnf)
          | ((with_reducible refine Ix.ad ?_ ?_ ?_); (focus (assumption)); (focus (omega)); conv => whnf)
          | ((with_reducible apply Ld.rdk0); (focus ((repeat ((refine Rd.own 1 rfl ?_); (assumption))); done)); (focus rfl); (focus (omega)); (focus rfl); conv => whnf)
          | (refine LdN.at 0 rfl (by first | exact Nat.le_of_ble_eq_true rfl | (simp; done)) ?_; conv => whnf)
          | (refine St.at 0 rfl (by first | exact Nat.le_of_ble_eq_true rfl | (simp; done)) rfl ?_; conv => whnf)
          | ((with_reducible refine Cl.is (hrd _) ?_); conv => whnf)
          | ((with_reducible refine (?_ : Sm _ (Builtin.append_ _ _ _) _ _)); (((with_reducible apply (Sm.appAt (E := mrE) (et := 29) Tryd.tysOk 2)); (focus rfl)); (rotate_left; (focus (exact Rd.ptc 0 rfl [_] rfl)); rotate_right; (focus rfl)); (focus rfl); (focus rfl); (focus rfl); (focus rfl); (focus rfl); (focus rfl); (focus ((simp only [List.length_append, List.length_cons, List.length_nil]); omega)); (intro _ _ _ _); conv => whnf)))
        all_goals try (exfalso; omega)
        all_goals (rename_i a5 c5 hc5 had5; exact ⟨k + 1, (a5, c5, ys ++ [rdM (qs.getD k [])]), by kernel_rfl, by (try dsimp only); (refine FEnt.ent ?_; (repeat (first | exact FEnt.rfl | (refine FEnt.at 0 rfl ?_; (try simp only [List.eraseIdx_cons_zero, List.eraseIdx_cons_succ, List.eraseIdx_zero, List.tail_cons])) | (refine FEnt.at 2 rfl ?_; (try simp only [List.eraseIdx_cons_zero, List.eraseIdx_cons_succ, List.eraseIdx_zero, List.tail_cons])) | refine FEnt.drop ?_)); done), ⟨⟨by omega, by omega⟩, by rw [List.length_append]; simp only [List.length_cons, List.length_nil]; omega, g3, hc5, had5⟩, by omega⟩)
    · rw [if_neg ho] at g3
      simp only [Prod.mk.injEq] at g3
      obtain ⟨rfl, rfl, rfl⟩ := g3
      rw [decide_eq_false ho] at hrd
      rw [g2]
      clear hwa hq3 hR0 el hak
      conv => whnf
      repeat' (first
        | (first | ((with_reducible refine Br.nf ?_); conv => whnf) | ((with_reducible refine Br.dt ?_ ?_); (focus (first | assumption | omega)); conv => whnf))
        | ((with_reducible refine Ar.i64 ?_ ?_); (focus omega); conv => whnf)
        | ((with_reducible refine Nd.mk ?_ ?_); (focus (first | omega | rfl | assumption | (simp; done))); conv => whnf)
        | ((with_reducible refine Nc.go' (fun _ => ?_)); conv => whnf)
        | ((with_reducible refine Ix.ad ?_ ?_ ?_); (focus (assumption)); (focus (omega)); conv => whnf)
        | ((with_reducible apply Ld.rdk0); (focus ((repeat ((refine Rd.own 1 rfl ?_); (assumption))); done)); (focus rfl); (focus (omega)); (focus rfl); conv => whnf)
        | (refine St.at 0 rfl (by first | exact Nat.le_of_ble_eq_true rfl | (simp; done)) rfl ?_; conv => whnf)
        | ((with_reducible refine Cl.is (hrd _) ?_); conv => whnf))
      all_goals first | exact PrsP.nil (by (refine FEnt.ent ?_; (repeat (first | exact FEnt.rfl | refine FEnt.drop ?_)); done)) | (exfalso; omega)
  · have e0 : k + 1 = qs.length := by omega
    rw [List.drop_eq_nil_of_le (by omega), prs_end] at g3
    have ei : Int.toNat ((ws.length : Int) - 1) = k := by omega
    rw [← ei] at hak
    have en : ∀ l : List UInt8, bsL l = ⟨#[]⟩ ↔ l = [] := fun l => ⟨fun h => by have := congrArg (fun x : ByteArray => x.data.toList) h; exact this, fun h => by rw [h]⟩
    by_cases h0 : qs.getD k [] = []
    · rw [if_pos h0] at g3
      simp only [Prod.mk.injEq] at g3
      obtain ⟨rfl, rfl, rfl⟩ := g3
      have hz : ws.getD (Int.toNat ((ws.length : Int) - 1)) strE.d = ⟨#[]⟩ := by rw [hak]; rw [ei]; exact (en _).2 h0
      clear hwa hq3 hR0 hak ei en
      conv => whnf
      repeat' (first
        | (first | ((with_reducible refine Br.df ?_ ?_); (focus (first | assumption | omega)); conv => whnf) | ((with_reducible refine Br.ndf ?_ ?_); (focus (first | assumption | omega)); conv => whnf))
        | ((with_reducible refine Ar.i64 ?_ ?_); (focus omega); conv => whnf)
        | ((with_reducible refine Ix.ad ?_ ?_ ?_); (focus (assumption)); (focus (omega)); conv => whnf)
        | ((apply Ld.rd0); (focus ((repeat ((refine Rd.own 1 rfl ?_); (assumption))); done)); (focus rfl); (focus (omega)); (focus rfl); conv => whnf))
      all_goals first | exact Exs.of ((a, c) : Option Addr × Nat) (by (try dsimp only); (refine FEnt.ent ?_; (repeat (first | exact FEnt.rfl | (refine FEnt.at 0 rfl ?_; (try simp only [List.eraseIdx_cons_zero, List.eraseIdx_cons_succ, List.eraseIdx_zero, List.tail_cons])) | refine FEnt.drop ?_)); done)) ⟨g4, g5⟩ rfl | (exfalso; omega)
    · rw [if_neg h0] at g3
      simp only [Prod.mk.injEq] at g3
      obtain ⟨rfl, rfl, rfl⟩ := g3
      have hz : ¬ ws.getD (Int.toNat ((ws.length : Int) - 1)) strE.d = ⟨#[]⟩ := by rw [hak, ei]; exact fun h => h0 ((en _).1 h)
      have e1 : (ys.length : Int) + 1 = (ws.length : Int) := by omega
      rw [e1]
      clear hwa hq3 hR0 hak ei en
      conv => whnf
      repeat' (first
        | (first | ((with_reducible refine Br.df ?_ ?_); (focus (first | assumption | omega)); conv => whnf) | ((with_reducible refine Br.ndt ?_ ?_); (focus (first | assumption | omega)); conv => whnf))
        | ((with_reducible refine Ar.i64 ?_ ?_); (focus omega); conv => whnf)
        | ((with_reducible refine Ix.ad ?_ ?_ ?_); (focus (assumption)); (focus (omega)); conv => whnf)
        | ((apply Ld.rd0); (focus ((repeat ((refine Rd.own 1 rfl ?_); (assumption))); done)); (focus rfl); (focus (omega)); (focus rfl); conv => whnf))
      all_goals first | exact PrsP.nil (by (refine FEnt.ent ?_; (repeat (first | exact FEnt.rfl | refine FEnt.drop ?_)); done)) | (exfalso; omega)
/-! the statements -/
theorem prn_ex (xs : List Mrk) : ∃ l e, PrnR xs l e ∧ (e = 0 → (∀ x ∈ xs, MayM x) ∧ l = prnF xs ∧ xs.length ≤ 4096) := by
  by_cases h : 4096 < xs.length
  · exact ⟨_, _, .long h, fun h => absurd h (by decide)⟩
  · by_cases hm : ∀ x ∈ xs, MayM x
    · exact ⟨_, _, .ok (by omega) hm, fun _ => ⟨hm, rfl, by omega⟩⟩
    · have : ∃ k, k < xs.length ∧ ¬ MayM (xs.getD k mrE.d) := by
        refine Classical.byContradiction fun hc => hm fun x hx => ?_
        obtain ⟨i, hi, rfl⟩ := List.getElem_of_mem hx
        refine Classical.byContradiction fun hn => hc ⟨i, hi, ?_⟩
        rwa [show xs.getD i mrE.d = xs[i] from by simp [List.getD, hi]]
      obtain ⟨k, hk, hn⟩ := this
      exact ⟨_, _, .no (by omega) k hk hn, fun h => absurd h (by decide)⟩
theorem mrB_may {m : Mrk} (h : MayM m) : MrB m := by
  have h1 := h.t
  have h2 := h.a
  have h3 := h.b
  have h4 := h.n
  have h5 := h.s
  exact ⟨by omega, by omega, by omega, by omega, by omega⟩
theorem hexF_ge (d : ByteArray) : d.size ≤ (hexF d).length := by
  unfold hexF
  split
  · omega
  · rw [hx2_len, size_list]; omega
theorem line_ge (m : Mrk) : m.d.size ≤ (joinF m).length := by
  have h5 := hexF_ge m.d
  simp only [joinF, wordsF, List.map_cons, List.map_nil, Lib.join_cons, Lib.joinTail, List.flatten_cons, List.flatten_nil, List.length_append, List.length_cons, List.length_nil, bsL_list]
  omega
theorem prn_ge {xs : List Mrk} {m : Mrk} (h : m ∈ xs) : m.d.size ≤ (prnF xs).length := by
  obtain ⟨l1, l2, rfl⟩ := List.append_of_mem h
  have := line_ge m
  simp only [prnF, List.flatMap_append, List.flatMap_cons, List.length_append, lineF, List.length_cons, List.length_nil]
  omega
theorem Tryd.tracePrintsLaw (a : Option Addr) (c : Nat) (xs : List Mrk) (L : List HP) (hc : xs.length ≤ c) (hm : c ≤ 9223372036854775807) (hr : Rd mrE L a xs) (hi : ∀ x ∈ xs, MrB x ∧ x.d.size ≤ 9223372036854775807) (hG : Tryd.Gk L) (hM : Tryd.Mx L) :
    Con Tryd.prog 4 [.slice a xs.length c] L (Is (.bool true) L) := by
  have hfew := fun L h => Tryd.trcFew a c xs L hc hm h
  have h60 : (few60 xs).length ≤ 60 := by unfold few60; rw [List.length_take]; omega
  have hr2 : Rd mrE L a (few60 xs) := hr.take _
  have hin : ∀ x ∈ few60 xs, MrB x := fun x hx => (hi x (List.mem_of_mem_take hx)).1
  by_cases hall : ∀ m ∈ few60 xs, m.d.size ≤ 300
  · rw [decide_eq_true hall] at hfew
    clear hi
    generalize few60 xs = us at *
    have hB : ∀ m ∈ us, MrB m ∧ m.d.size ≤ 1000000 := fun m h => ⟨hin m h, by have := hall m h; omega⟩
    obtain ⟨l, e, hP, he0⟩ := prn_ex us
    have hp1 := fun L h hg => Tryd.trcPrint a c us l e L (by omega) hB h hg hP
    have hp2 := fun L h => Tryd.refPrint33 a c us l e L (by omega) hB h hP
    clear hP hB
    have hall' := hall
    clear hall
    refine con_of Tryd.tysOk Tryd.func4 rfl rfl ?_
    conv => whnf
    repeat' (first
      | (first | ((with_reducible refine Br.ff ?_); conv => whnf) | ((with_reducible refine Br.nt ?_); conv => whnf) | ((with_reducible refine Br.ndf ?_ ?_); (focus (first | assumption | omega)); conv => whnf) | ((with_reducible refine Br.no ?_ ?_); (focus (first | (simp; done) | (simp; omega))); conv => whnf))
      | ((with_reducible refine Nd.mk ?_ ?_); (focus (first | omega | rfl | assumption | (simp; done))); conv => whnf)
      | (first | ((with_reducible refine Cl.is (hfew _ (by ((repeat (assumption)); done))) ?_); conv => whnf) | ((with_reducible refine Cl.is (hp1 _ (by ((repeat (assumption)); done)) (by ((repeat (first | assumption | apply Tryd.gkCons | apply Tryd.gkApp)); done))) ?_); conv => whnf) | ((with_reducible refine Cl.is (hp2 _ (by ((repeat (assumption)); done))) ?_); conv => whnf)))
    conv => whnf
    refine Lp.by Tryd.tysOk [8] (fun (k : Nat) => [.int .i64 k]) (fun k => L) (fun k => k ≤ us.length) (fun k => us.length - k) (0) (by kernel_rfl) (by (exact Ent.rfl)) (by omega) ?_
    rintro k g1
    conv => whnf
    repeat (intro _; conv => whnf)
    by_cases hk : k < us.length
    · have hb := hin _ (getD_mem (d := mrE.d) hk)
      have m1 := fun L => Tryd.trcMay (us.getD k mrE.d) L hb
      have m2 := fun L => Tryd.refMay33 (us.getD k mrE.d) L hb
      have s1 := fun L => Tryd.trcName (us.getD k mrE.d).s L hb.s
      have s2 := fun L => Tryd.refName33 (us.getD k mrE.d).s L hb.s
      have hbs := hb.s
      clear hb hin he0
      by_cases hM1 : MayM (us.getD k mrE.d)
      · have m1 := fun L => Con.dt hM1 (m1 L)
        have m2 := fun L => Con.dt hM1 (m2 L)
        conv => whnf
        repeat' (first
          | (first | ((with_reducible refine Br.ff ?_); conv => whnf) | ((with_reducible refine Br.dt ?_ ?_); (focus (first | assumption | omega)); conv => whnf) | ((with_reducible refine Br.nef ?_ ?_); (focus (first | rfl | assumption)); conv => whnf) | ((with_reducible refine Br.no ?_ ?_); (focus (first | (simp; done) | (simp; omega))); conv => whnf))
          | ((with_reducible refine Ar.i64 ?_ ?_); (focus omega); conv => whnf)
          | ((with_reducible refine Ix.ad ?_ ?_ ?_); (focus (exact Rd.ad (by assumption))); (focus (omega)); conv => whnf)
          | ((with_reducible apply Ld.rdk); (focus ((repeat (assumption)); done)); (focus rfl); (focus (omega)); (focus rfl); conv => whnf)
          | ((with_reducible apply LdN.rdk); (focus ((repeat (assumption)); done)); (focus rfl); (focus rfl); (focus (omega)); conv => whnf)
          | ((with_reducible refine Dr.by (id := 11) Tryd.tysOk rfl [(0, 0), (1, 0), (2, 0), (5, 0), (6, 0), (7, 0), (3, 1), (4, 1), (8, 1), (9, 1), (10, 0), (11, 0), (12, 0), (13, 0), (14, 0), (15, 0), (18, 0), (19, 0), (20, 0), (21, 0), (16, 1), (17, 1), (22, 1), (23, 0), (24, 1), (25, 0), (26, 0)] ?_ ?_); (focus kernel_rfl); conv => whnf)
          | (first | ((with_reducible refine CD.is (fun M => m1 _) ?_); conv => whnf) | ((with_reducible refine CD.is (fun M => m2 _) ?_); conv => whnf) | ((with_reducible refine CD.is (fun M => s1 _) ?_); conv => whnf) | ((with_reducible refine CD.is (fun M => s2 _) ?_); conv => whnf)))
        all_goals first | exact ⟨k + 1, by kernel_rfl, by (exact Ent.rfl), by omega, by omega⟩ | (exfalso; omega)
      · have m1 := fun L => Con.df hM1 (m1 L)
        have m2 := fun L => Con.df hM1 (m2 L)
        conv => whnf
        repeat' (first
          | (first | ((with_reducible refine Br.ff ?_); conv => whnf) | ((with_reducible refine Br.dt ?_ ?_); (focus (first | assumption | omega)); conv => whnf) | ((with_reducible refine Br.nef ?_ ?_); (focus (first | rfl | assumption)); conv => whnf) | ((with_reducible refine Br.no ?_ ?_); (focus (first | (simp; done) | (simp; omega))); conv => whnf))
          | ((with_reducible refine Ar.i64 ?_ ?_); (focus omega); conv => whnf)
          | ((with_reducible refine Ix.ad ?_ ?_ ?_); (focus (exact Rd.ad (by assumption))); (focus (omega)); conv => whnf)
          | ((with_reducible apply Ld.rdk); (focus ((repeat (assumption)); done)); (focus rfl); (focus (omega)); (focus rfl); conv => whnf)
          | ((with_reducible apply LdN.rdk); (focus ((repeat (assumption)); done)); (focus rfl); (focus rfl); (focus (omega)); conv => whnf)
          | ((with_reducible refine Dr.by (id := 11) Tryd.tysOk rfl [(0, 0), (1, 0), (2, 0), (5, 0), (6, 0), (7, 0), (3, 1), (4, 1), (8, 1), (9, 1), (10, 0), (11, 0), (12, 0), (13, 0), (14, 0), (15, 0), (18, 0), (19, 0), (20, 0), (21, 0), (16, 1), (17, 1), (22, 1), (23, 0), (24, 1), (25, 0), (26, 0)] ?_ ?_); (focus kernel_rfl); conv => whnf)
          | (first | ((with_reducible refine CD.is (fun M => m1 _) ?_); conv => whnf) | ((with_reducible refine CD.is (fun M => m2 _) ?_); conv => whnf) | ((with_reducible refine CD.is (fun M => s1 _) ?_); conv => whnf) | ((with_reducible refine CD.is (fun M => s2 _) ?_); conv => whnf)))
        all_goals first | exact ⟨k + 1, by kernel_rfl, by (exact Ent.rfl), by omega, by omega⟩ | (exfalso; omega)
    · have hlv := fun L h => Tryd.trcLive L h
      by_cases h0 : e = 0
      · obtain ⟨q1, rfl, q2⟩ := he0 h0
        subst h0
        have hlen : (bsL (prnF us)).size ≤ 1000000 := by
          have := prn_len (xs := us) (D := 300) fun m hm => ⟨q1 m hm, hall' m hm⟩
          rw [bsL_size]
          have h2 : (101 + 2 * 300) * us.length ≤ (101 + 2 * 300) * 60 := Nat.mul_le_mul_left _ h60
          omega
        have hpa := fun L h => Tryd.trcParse (bsL (prnF us)) us 0 0 L hlen h (by rw [bsL_list, prsF_prn q1, if_pos q2])
        have hsm := fun a' c' L h h' => Con.dt rfl (Tryd.refMrSame a' a c' c us us L (by omega) h h')
        clear hin q1 hlen
        conv => whnf
        repeat' (first
          | (first | ((with_reducible refine Br.tt ?_); conv => whnf) | ((with_reducible refine Br.dt ?_ ?_); (focus (first | assumption | omega)); conv => whnf) | ((with_reducible refine Br.df ?_ ?_); (focus (first | assumption | omega)); conv => whnf) | ((with_reducible refine Br.ndf ?_ ?_); (focus (first | assumption | omega)); conv => whnf))
          | ((with_reducible refine Nd.mk ?_ ?_); (focus (first | omega | rfl | assumption | (simp; done))); conv => whnf)
          | (first | ((with_reducible refine Cl.exs (hpa _ (by ((repeat (first | assumption | apply Tryd.mxCons | apply Tryd.mxApp)); done))) (fun ⟨ap, cp⟩ ⟨hp3, hp4⟩ => ?_)); conv => whnf) | ((with_reducible refine Cl.is (hlv _ (by ((repeat (first | assumption | apply Tryd.gkCons | apply Tryd.gkApp)); done))) ?_); conv => whnf) | ((with_reducible refine Cl.is (hsm _ _ _ (by ((repeat ((refine Rd.own 0 rfl ?_); (assumption))); done)) (by ((repeat (first | assumption | apply Rd.cons)); done))) ?_); conv => whnf)))
        all_goals first | (refine Is.ent ?_ ?_; (focus (refine FEnt.ent ?_; (repeat (first | exact FEnt.rfl | refine FEnt.drop ?_)); done)); (exact Is.rfl)) | (exfalso; omega)
      · clear he0 hin
        conv => whnf
        repeat' (first
          | (first | ((with_reducible refine Br.df ?_ ?_); (focus (first | assumption | omega)); conv => whnf) | ((with_reducible refine Br.ndt ?_ ?_); (focus (first | assumption | omega)); conv => whnf))
          | ((with_reducible refine Cl.is (hlv _ (by ((repeat (first | assumption | apply Tryd.gkCons | apply Tryd.gkApp)); done))) ?_); conv => whnf))
        all_goals first | (refine Is.ent ?_ ?_; (focus (exact Ent.rfl)); (exact Is.rfl)) | (exfalso; omega)
  · rw [decide_eq_false hall] at hfew
    have hlv := fun L h => Tryd.trcLive L h
    clear hi hin hall
    refine con_of Tryd.tysOk Tryd.func4 rfl rfl ?_
    conv => whnf
    repeat' (first
      | ((with_reducible refine Br.nf ?_); conv => whnf)
      | ((with_reducible refine Nd.mk ?_ ?_); (focus (first | omega | rfl | assumption | (simp; done))); conv => whnf)
      | (first | ((with_reducible refine Cl.is (hfew _ (by ((repeat (assumption)); done))) ?_); conv => whnf) | ((with_reducible refine Cl.is (hlv _ (by ((repeat (first | assumption | apply Tryd.gkCons | apply Tryd.gkApp)); done))) ?_); conv => whnf)))
    all_goals first | (refine Is.ent ?_ ?_; (focus (exact Ent.rfl)); (exact Is.rfl)) | (exfalso; omega)
theorem Tryd.traceParsesLaw (s : ByteArray) (L : List HP) (hG : Tryd.Gk L) (hM : Tryd.Mx L) :
    Con Tryd.prog 5 [.string s] L (Is (.bool true) L) := by
  have hlv := fun L h => Tryd.trcLive L h
  by_cases h3 : s.size ≤ 3000
  · obtain ⟨⟨xs, n, e⟩, hR⟩ : ∃ R, prsF s.data.toList = R := ⟨_, rfl⟩
    have hl := size_list s
    have h1 := fun L h => Tryd.trcParse s xs n e L (by omega) h hR
    have h2 := fun L => Tryd.refParse33 s xs n e L (by omega) hR
    have hxl : xs.length ≤ 4096 := by
      by_cases h0 : e = 0
      · subst h0
        obtain ⟨ms, e1, _, _, e4⟩ := prsF_ok (s := s.data.toList) (by rw [hR])
        rw [hR] at e1
        simp only [Prod.mk.injEq] at e1
        obtain ⟨rfl, _⟩ := e1
        exact e4
      · have := prs_no _ _ _ (show (prsF s.data.toList).2.2 ≠ 0 from by rw [hR]; exact h0)
        change (prsF s.data.toList).1 = [] at this
        rw [hR] at this
        rw [show xs = [] from this]
        exact Nat.zero_le _
    have hsm := fun a a' c c' L h h' => Con.dt rfl (Tryd.refMrSame a a' c c' xs xs L (by omega) h h')
    by_cases h0 : e = 0
    · subst h0
      obtain ⟨ms, e1, e2, e3, e4⟩ := prsF_ok (s := s.data.toList) (by rw [hR])
      rw [hR] at e1
      simp only [Prod.mk.injEq] at e1
      obtain ⟨rfl, rfl, _⟩ := e1
      have hpr := fun a c L h hg => Tryd.trcPrint a c xs (prnF xs) 0 L (by omega) (fun m hm => ⟨mrB_may (e2 m hm), by have := prn_ge hm; rw [e3] at this; omega⟩) h hg (.ok e4 e2)
      rw [e3, show bsL s.data.toList = s from str_ext rfl] at hpr
      clear e2 e3 hR
      refine con_of Tryd.tysOk Tryd.func5 rfl rfl ?_
      conv => whnf
      repeat' (first
        | (first | ((with_reducible refine Br.tt ?_); conv => whnf) | ((with_reducible refine Br.ff ?_); conv => whnf) | ((with_reducible refine Br.nt ?_); conv => whnf) | ((with_reducible refine Br.df ?_ ?_); (focus (first | assumption | omega)); conv => whnf) | ((with_reducible refine Br.ndf ?_ ?_); (focus (first | assumption | omega)); conv => whnf) | ((with_reducible refine Br.yes ?_ ?_); (focus (first | (simp; done) | (simp; omega))); conv => whnf))
        | ((with_reducible refine Nd.mk ?_ ?_); (focus (first | omega | rfl | assumption | (simp; done))); conv => whnf)
        | (first | ((with_reducible refine Cl.exs (h1 _ (by ((repeat (first | assumption | apply Tryd.mxCons | apply Tryd.mxApp)); done))) (fun ⟨ap, cp⟩ ⟨hp3, hp4⟩ => ?_)); conv => whnf) | ((with_reducible refine Cl.exs (h2 _) (fun ⟨aq, cq⟩ ⟨hq3, hq4⟩ => ?_)); conv => whnf) | ((with_reducible refine Cl.is (hlv _ (by ((repeat (first | assumption | apply Tryd.gkCons | apply Tryd.gkApp)); done))) ?_); conv => whnf) | ((with_reducible refine Cl.is (hsm _ _ _ _ _ (by ((repeat ((refine Rd.own 1 rfl ?_); (assumption))); done)) (by ((repeat ((refine Rd.own 0 rfl ?_); (assumption))); done))) ?_); conv => whnf) | ((with_reducible refine Cl.is (hpr _ _ _ (by ((repeat ((refine Rd.own 1 rfl ?_); (assumption))); done)) (by ((repeat (first | assumption | apply Tryd.gkCons | apply Tryd.gkApp)); done))) ?_); conv => whnf)))
      all_goals first | (refine Is.ent ?_ ?_; (focus (refine FEnt.ent ?_; (repeat (first | exact FEnt.rfl | refine FEnt.drop ?_)); done)); (exact Is.rfl)) | (exfalso; omega)
    · clear hR
      refine con_of Tryd.tysOk Tryd.func5 rfl rfl ?_
      conv => whnf
      repeat' (first
        | (first | ((with_reducible refine Br.ff ?_); conv => whnf) | ((with_reducible refine Br.nt ?_); conv => whnf) | ((with_reducible refine Br.df ?_ ?_); (focus (first | assumption | omega)); conv => whnf) | ((with_reducible refine Br.ndt ?_ ?_); (focus (first | assumption | omega)); conv => whnf) | ((with_reducible refine Br.ndf ?_ ?_); (focus (first | assumption | omega)); conv => whnf))
        | ((with_reducible refine Nd.mk ?_ ?_); (focus (first | omega | rfl | assumption | (simp; done))); conv => whnf)
        | (first | ((with_reducible refine Cl.exs (h1 _ (by ((repeat (first | assumption | apply Tryd.mxCons | apply Tryd.mxApp)); done))) (fun ⟨ap, cp⟩ ⟨hp3, hp4⟩ => ?_)); conv => whnf) | ((with_reducible refine Cl.exs (h2 _) (fun ⟨aq, cq⟩ ⟨hq3, hq4⟩ => ?_)); conv => whnf) | ((with_reducible refine Cl.is (hlv _ (by ((repeat (first | assumption | apply Tryd.gkCons | apply Tryd.gkApp)); done))) ?_); conv => whnf) | ((with_reducible refine Cl.is (hsm _ _ _ _ _ (by ((repeat ((refine Rd.own 1 rfl ?_); (assumption))); done)) (by ((repeat ((refine Rd.own 0 rfl ?_); (assumption))); done))) ?_); conv => whnf)))
      all_goals first | (refine Is.ent ?_ ?_; (focus (refine FEnt.ent ?_; (repeat (first | exact FEnt.rfl | refine FEnt.drop ?_)); done)); (exact Is.rfl)) | (exfalso; omega)
  · refine con_of Tryd.tysOk Tryd.func5 rfl rfl ?_
    conv => whnf
    repeat' (first
      | ((with_reducible refine Br.dt ?_ ?_); (focus (first | assumption | omega)); conv => whnf)
      | ((with_reducible refine Cl.is (hlv _ (by ((repeat (first | assumption | apply Tryd.gkCons | apply Tryd.gkApp)); done))) ?_); conv => whnf))
    all_goals first | (refine Is.ent ?_ ?_; (focus (exact Ent.rfl)); (exact Is.rfl)) | (exfalso; omega)
end Go.Proofs
