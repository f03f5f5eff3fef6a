/- The listing of any program: the statement DisLists. -/
import Derived.Test.YtloaknocdnpedaaGreatDoorDisE
import Derived.Test.YtloaknocdnpedaaGreatDoorDisU
import Derived.Test.YtloaknocdnpedaaGreatDoorDisV
import Derived.Test.YtloaknocdnpedaaGreatDoorAsmF
set_option linter.all false
namespace Go.Proofs
open Go.Eng Go.RowKit
open Classical
set_option linter.unusedVariables false
set_option maxRecDepth 100000
set_option maxHeartbeats 4000000
/-! the listing's size -/
theorem lstT_ln {T : Int → Prop} {e : Nat} (he : e ≤ 60000) : ∀ {l : List Pc} {k : Nat}, chn e k l → (lstT T e l).length ≤ 28 * l.length + 6
  | [], k, h => by
    rw [lstT_nil]
    have := nmS_sz (n := (e : Int)) (by omega)
    split
    · rw [List.length_append, size_list]
      simp only [List.length_cons, List.length_nil]
      omega
    · simp
  | p :: l, k, h => by
    have ih := lstT_ln (T := T) he h.2.2
    have hp := pcT_len (T := T) h.2.1
    have hle := chn_le h.2.2
    have hz := pcZ'_pos p
    have := nmS_sz (n := p.a) (by rw [h.1]; omega)
    rw [lstT_cons, List.length_append, List.length_append, List.length_append, List.length_cons]
    have h6 : ((if T p.a then (nmS p.a).data.toList ++ [58, 10] else []) : List UInt8).length ≤ 6 := by
      split
      · rw [List.length_append, size_list]
        simp only [List.length_cons, List.length_nil]
        omega
      · simp
    simp only [List.length_cons, List.length_nil]
    omega
theorem chn_ct {e : Nat} : ∀ {l : List Pc} {k : Nat}, chn e k l → k + l.length ≤ e
  | [], k, h => chn_le h
  | p :: l, k, h => by
    have := chn_ct h.2.2
    have := pcZ'_pos p
    rw [List.length_cons]
    omega
/-! the document's listing -/
theorem Tryz.listing40 (s : ByteArray) (L : List HP) (hs : s.size ≤ 1024) (hcb : ∀ p ∈ cutF s 0, 0 ≤ p.c ∧ p.c ≤ 255) : Con Tryz.prog 10 [.string s] L (Is (.string (bsL (lstT (tgt (cutF s 0) s.size) s.size (cutF s 0)))) L) := by
  have hch := cut_chn s s.size 0 (by omega)
  have hcu := fun L => Tryz.refCut s L (by omega)
  have hll := chn_ct hch
  have hok := chn_ok hch
  have hze := nmS_sz (n := (s.size : Int)) (by omega)
  obtain ⟨ca, _⟩ := chn_a hch
  have hnmE := fun L => Tryz.refName s.size (by omega) L
  have eE : (⟨(nm s.size).toArray⟩ : ByteArray) = nmS (s.size : Int) := (nmS_eq (by omega)).symm
  rw [eE] at hnmE
  clear hch eE
  generalize cutF s 0 = l at *
  have htg := fun a c n L h => Tryz.target40 a c l s.size n L h (by omega) hcb
  refine con_of Tryz.tysOk Tryz.func10 rfl rfl ?_
  conv => whnf
  repeat' ((with_reducible refine (?_ : Cl _ 8 _ _ _ _)); (refine Cl.new (hcu _) (fun _ _ _ _ => ?_)); conv => whnf)
  all_goals try (exfalso; omega)
  rename_i a c hc had
  have hli := fun p hp h2 L h => Tryz.line40 a c l s.size p L h (by omega) hcb hp h2
  clear hcu
  conv => whnf
  refine Lp.by2 Tryz.tysOk [5, 4] (fun (k : Nat) (o : ByteArray) => [.int .i64 k, .string o]) (fun k o => own pcE 67 a c l :: L) (fun k o => (k ≤ l.length ∧ o.size ≤ 40 * k) ∧ o.data.toList ++ lstT (tgt l s.size) s.size (l.drop k) = lstT (tgt l s.size) s.size l) (fun k o => l.length - k) (0) ((⟨#[]⟩ : ByteArray)) (by kernel_rfl) (by (exact Ent.rfl)) (⟨⟨by omega, by decide⟩, rfl⟩) ?_
  rintro k o ⟨⟨g1, g2⟩, g3⟩
  conv => whnf
  repeat (intro _; conv => whnf)
  have hw2 : (⟨#[58, 10]⟩ : ByteArray).size = 2 := rfl
  have hw1 : (⟨#[10]⟩ : ByteArray).size = 1 := rfl
  by_cases hk : k < l.length
  · have hp := hok _ (getD_mem (d := pcE.d) hk)
    have hpa := ca _ (getD_mem (d := pcE.d) hk)
    have hpc := hcb _ (getD_mem (d := pcE.d) hk)
    have hli := fun L h => hli (l.getD k pcE.d) hp hpc L h
    have hpl := pcT_len (T := tgt l s.size) hp
    have htg := fun L h => htg a c (l.getD k pcE.d).a L h
    rw [pc_drop hk, lstT_cons] at g3
    have hzl : (bsL (pcT (tgt l s.size) (l.getD k pcE.d))).size ≤ 21 := by rw [bsL_size]; exact hpl
    have hzl2 : (bsL (pcT (tgt l s.size) (l.getD k pcE.d))).data.toList = pcT (tgt l s.size) (l.getD k pcE.d) := rfl
    rw [← hzl2] at g3
    clear hok ca hp hzl2 hpl hcb hnmE hze
    generalize bsL (pcT (tgt l s.size) (l.getD k pcE.d)) = W at *
    by_cases ht : tgt l s.size (l.getD k pcE.d).a
    · rw [if_pos ht] at g3
      have htg := fun L h => Con.dt ht (htg L h)
      have hnm : ∀ L, Con Tryz.prog 24 [.int .i64 (l.getD k pcE.d).a] L (Is (.string (nmS (l.getD k pcE.d).a)) L) := fun L => by
        have h1 : (l.getD k pcE.d).a = ((l.getD k pcE.d).a.toNat : Nat) := by omega
        have := Tryz.refName (l.getD k pcE.d).a.toNat (by omega) L
        rw [← h1] at this
        have e2 : (⟨(nm (l.getD k pcE.d).a.toNat).toArray⟩ : ByteArray) = nmS (l.getD k pcE.d).a := by
          have := nmS_eq (n := (l.getD k pcE.d).a.toNat) (by omega)
          rw [← h1] at this
          exact this.symm
        rw [e2] at this
        exact this
      have hzn := nmS_sz (n := (l.getD k pcE.d).a) (by omega)
      have y1 : (o ++ nmS (l.getD k pcE.d).a).size ≤ 40 * k + 4 := by rw [app_size]; omega
      have y2 : (o ++ nmS (l.getD k pcE.d).a ++ (⟨#[58, 10]⟩ : ByteArray)).size ≤ 40 * k + 6 := by rw [app_size]; omega
      have y3 : (o ++ nmS (l.getD k pcE.d).a ++ (⟨#[58, 10]⟩ : ByteArray) ++ W).size ≤ 40 * k + 27 := by rw [app_size]; omega
      have y4 : (o ++ nmS (l.getD k pcE.d).a ++ (⟨#[58, 10]⟩ : ByteArray) ++ W ++ (⟨#[10]⟩ : ByteArray)).size ≤ 40 * (k + 1) := by rw [app_size]; omega
      have y5 : (o ++ nmS (l.getD k pcE.d).a ++ (⟨#[58, 10]⟩ : ByteArray) ++ W ++ (⟨#[10]⟩ : ByteArray)).data.toList ++ lstT (tgt l s.size) s.size (l.drop (k + 1)) = lstT (tgt l s.size) s.size l := by
        rw [append_list, append_list, append_list, append_list, ← g3]
        simp
      clear g3 ht
      conv => whnf
      repeat' (first
        | (first | ((with_reducible refine Br.tt ?_); conv => whnf) | ((with_reducible refine Br.dt ?_ ?_); (focus (first | assumption | omega)); conv => whnf))
        | ((with_reducible refine Ar.i64 ?_ ?_); (focus omega); conv => whnf)
        | ((with_reducible refine Nd.mk ?_ ?_); (focus (first | omega | rfl | assumption | (simp; done))); conv => whnf)
        | ((with_reducible refine Ix.ad ?_ ?_ ?_); (focus (assumption)); (focus (omega)); conv => whnf)
        | ((with_reducible apply Ld.rdk0); (focus ((repeat ((refine Rd.own 0 rfl ?_); (assumption))); done)); (focus rfl); (focus (omega)); (focus rfl); conv => whnf)
        | ((with_reducible apply LdN.rdk); (focus ((repeat ((refine Rd.own 0 rfl ?_); (assumption))); done)); (focus rfl); (focus rfl); (focus (omega)); conv => whnf)
        | (first | ((with_reducible refine Cl.is (htg _ (by ((repeat ((refine Rd.own 0 rfl ?_); (assumption))); done))) ?_); conv => whnf) | ((with_reducible refine Cl.is (hnm _) ?_); conv => whnf) | ((with_reducible refine Cl.is (hli _ (by ((repeat ((refine Rd.own 0 rfl ?_); (assumption))); done))) ?_); conv => whnf)))
      all_goals first | (exfalso; omega) | exact ⟨k + 1, o ++ nmS (l.getD k pcE.d).a ++ (⟨#[58, 10]⟩ : ByteArray) ++ W ++ (⟨#[10]⟩ : ByteArray), by kernel_rfl, by (exact Ent.rfl), ⟨⟨by omega, y4⟩, y5⟩, by omega⟩
    · rw [if_neg ht, List.nil_append] at g3
      have htg := fun L h => Con.df ht (htg L h)
      have y3 : (o ++ W).size ≤ 40 * k + 27 := by rw [app_size]; omega
      have y4 : (o ++ W ++ (⟨#[10]⟩ : ByteArray)).size ≤ 40 * (k + 1) := by rw [app_size]; omega
      have y5 : (o ++ W ++ (⟨#[10]⟩ : ByteArray)).data.toList ++ lstT (tgt l s.size) s.size (l.drop (k + 1)) = lstT (tgt l s.size) s.size l := by
        rw [append_list, append_list, ← g3]
        simp
      clear g3 ht
      conv => whnf
      repeat' (first
        | (first | ((with_reducible refine Br.ff ?_); conv => whnf) | ((with_reducible refine Br.dt ?_ ?_); (focus (first | assumption | omega)); conv => whnf))
        | ((with_reducible refine Ar.i64 ?_ ?_); (focus omega); conv => whnf)
        | ((with_reducible refine Nd.mk ?_ ?_); (focus (first | omega | rfl | assumption | (simp; done))); conv => whnf)
        | ((with_reducible refine Ix.ad ?_ ?_ ?_); (focus (assumption)); (focus (omega)); conv => whnf)
        | ((with_reducible apply Ld.rdk0); (focus ((repeat ((refine Rd.own 0 rfl ?_); (assumption))); done)); (focus rfl); (focus (omega)); (focus rfl); conv => whnf)
        | ((with_reducible apply LdN.rdk); (focus ((repeat ((refine Rd.own 0 rfl ?_); (assumption))); done)); (focus rfl); (focus rfl); (focus (omega)); conv => whnf)
        | (first | ((with_reducible refine Cl.is (htg _ (by ((repeat ((refine Rd.own 0 rfl ?_); (assumption))); done))) ?_); conv => whnf) | ((with_reducible refine Cl.is (hli _ (by ((repeat ((refine Rd.own 0 rfl ?_); (assumption))); done))) ?_); conv => whnf)))
      all_goals first | (exfalso; omega) | exact ⟨k + 1, o ++ W ++ (⟨#[10]⟩ : ByteArray), by kernel_rfl, by (exact Ent.rfl), ⟨⟨by omega, y4⟩, y5⟩, by omega⟩
  · rw [List.drop_eq_nil_of_le (by omega), lstT_nil] at g3
    have htg := fun L h => htg a c (s.size : Int) L h
    clear hok ca hli hcb
    by_cases ht : tgt l s.size s.size
    · rw [if_pos ht] at g3
      have htg := fun L h => Con.dt ht (htg L h)
      have y1 : (o ++ nmS (s.size : Int)).size ≤ 40 * k + 4 := by rw [app_size]; omega
      have y2 : (o ++ nmS (s.size : Int) ++ (⟨#[58, 10]⟩ : ByteArray)).size ≤ 40 * k + 6 := by rw [app_size]; omega
      have y5 : bsL (lstT (tgt l s.size) s.size l) = o ++ nmS (s.size : Int) ++ (⟨#[58, 10]⟩ : ByteArray) := str_ext (by
        rw [append_list, append_list, bsL_list, ← g3]
        simp)
      rw [y5]
      clear g3 ht y5
      conv => whnf
      repeat' (first
        | (first | ((with_reducible refine Br.tt ?_); conv => whnf) | ((with_reducible refine Br.df ?_ ?_); (focus (first | assumption | omega)); conv => whnf))
        | ((with_reducible refine Nd.mk ?_ ?_); (focus (first | omega | rfl | assumption | (simp; done))); conv => whnf)
        | (first | ((with_reducible refine Cl.is (htg _ (by ((repeat ((refine Rd.own 0 rfl ?_); (assumption))); done))) ?_); conv => whnf) | ((with_reducible refine Cl.is (hnmE _) ?_); conv => whnf)))
      all_goals first | (exfalso; omega) | (refine Is.ent ?_ ?_; (focus (refine FEnt.ent ?_; (repeat (first | exact FEnt.rfl | refine FEnt.drop ?_)); done)); (exact Is.rfl))
    · rw [if_neg ht, List.append_nil] at g3
      have htg := fun L h => Con.df ht (htg L h)
      have y5 : bsL (lstT (tgt l s.size) s.size l) = o := str_ext (by rw [bsL_list, ← g3])
      rw [y5]
      clear g3 ht y5
      conv => whnf
      repeat' (first
        | (first | ((with_reducible refine Br.ff ?_); conv => whnf) | ((with_reducible refine Br.df ?_ ?_); (focus (first | assumption | omega)); conv => whnf))
        | ((with_reducible refine Cl.is (htg _ (by ((repeat ((refine Rd.own 0 rfl ?_); (assumption))); done))) ?_); conv => whnf))
      all_goals first | (exfalso; omega) | (refine Is.ent ?_ ?_; (focus (refine FEnt.ent ?_; (repeat (first | exact FEnt.rfl | refine FEnt.drop ?_)); done)); (exact Is.rfl))
/-! the targets, rising -/
theorem tk_nodup (B : Int → Prop) : ∀ (l : List Pc) (ks : List Int), ks.Nodup → (tkF B ks l).Nodup
  | [], ks, h => h
  | p :: l, ks, h => by
    rw [tkF]
    split
    · split
      · exact tk_nodup B l ks h
      · rename_i hn
        exact tk_nodup B l _ (by
          rw [List.nodup_append]
          refine ⟨h, by simp, fun a ha b hb => ?_⟩
          rw [List.mem_singleton.1 hb]
          intro e
          rw [e] at ha
          exact hn ha)
    · exact tk_nodup B l ks h
theorem sortK_lt {ks : List Int} (h : ks.Nodup) : (sortK ks).Pairwise (· < ·) := by
  have h1 : (sortK ks).Pairwise (fun a b => decide (a ≤ b) = true) := List.pairwise_mergeSort (fun a b c h1 h2 => by simp only [decide_eq_true_eq] at *; exact Int.le_trans h1 h2) (fun a b => by simp only [Bool.or_eq_true, decide_eq_true_eq]; exact Int.le_total a b) ks
  have h2 : (sortK ks).Nodup := (List.mergeSort_perm ks _).nodup_iff.2 h
  exact (h1.and h2).imp fun {a b} hh => by
    have h3 : a ≤ b := of_decide_eq_true hh.1
    have h4 : a ≠ b := hh.2
    omega
theorem sortK_mem {ks : List Int} {n : Int} : n ∈ sortK ks ↔ n ∈ ks := (List.mergeSort_perm ks _).mem_iff
theorem rise_at {S : List Int} (h : S.Pairwise (· < ·)) {i j : Nat} (hij : i < j) (hj : j < S.length) : S.getD i 0 < S.getD j 0 := by
  have := List.pairwise_iff_getElem.1 h i j (by omega) hj hij
  simpa [List.getD, hj, show i < S.length by omega] using this
/-- the k first ones are ahead of a place, the others not -/
def ris (S : List Int) (k : Nat) (a : Int) : Prop := k ≤ S.length ∧ (∀ i, i < k → S.getD i 0 < a) ∧ ∀ i, k ≤ i → i < S.length → a ≤ S.getD i 0
theorem ris_yes {S : List Int} (h : S.Pairwise (· < ·)) {k : Nat} {a : Int} (hr : ris S k a) (hm : a ∈ S) : k < S.length ∧ S.getD k 0 = a ∧ ris S (k + 1) (a + 1) := by
  obtain ⟨i, hi, e⟩ := List.getElem_of_mem hm
  have e2 : S.getD i 0 = a := by simp [List.getD, hi, e]
  obtain ⟨r1, r2, r3⟩ := hr
  have hki : k = i := by
    rcases Nat.lt_trichotomy i k with hh | hh | hh
    · have := r2 i hh; omega
    · exact hh.symm
    · have q1 := r3 k (Nat.le_refl _) (by omega)
      have q2 := rise_at h hh hi
      omega
  subst hki
  refine ⟨hi, e2, by omega, fun j hj => ?_, fun j hj hj2 => ?_⟩
  · rcases Nat.lt_or_eq_of_le (Nat.le_of_lt_succ hj) with hh | hh
    · have := r2 j hh; omega
    · rw [hh]; omega
  · have := rise_at h (show k < j by omega) hj2
    omega
theorem ris_no {S : List Int} {k : Nat} {a : Int} (hr : ris S k a) (hm : a ∉ S) : ris S k (a + 1) := by
  obtain ⟨r1, r2, r3⟩ := hr
  refine ⟨r1, fun j hj => by have := r2 j hj; omega, fun j hj hj2 => ?_⟩
  have q := r3 j hj hj2
  have : S.getD j 0 ≠ a := fun e => hm (by
    rw [← e]
    simp [List.getD, hj2])
  omega
theorem Tryz.disListsLaw (s : ByteArray) (L : List HP) (hG : Tryz.Gk L) : Con Tryz.prog 3 [.string s] L (Is (.bool true) L) := by
  have hlv := fun L => Tryz.disLive L
  by_cases hs : s.size ≤ 200
  · have hli := fun L h => Tryz.disListingG s L (by omega) h
    have hch := cut_chn s s.size 0 (by omega)
    have hok := chn_ok hch
    have hcb : ∀ p ∈ cutF s 0, 0 ≤ p.c ∧ p.c ≤ 255 := by
      have key : ∀ (d k : Nat), k + d = s.size → ∀ p ∈ cutF s k, 0 ≤ p.c ∧ p.c ≤ 255 := by
        intro d
        induction d using Nat.strongRecOn with
        | _ d ih =>
          intro k hk p hp
          by_cases h0 : k < s.size
          · by_cases hi : insAt s k
            · have h4 := hi.1
              rw [cut_i hi] at hp
              rcases List.mem_cons.1 hp with rfl | hp
              · exact insC_ok _
              · exact ih (d - 4) (by omega) (k + 4) (by omega) p hp
            · rw [cut_b h0 hi] at hp
              rcases List.mem_cons.1 hp with rfl | hp
              · exact ⟨Int.le_refl 0, by show (0 : Int) ≤ 255; decide⟩
              · exact ih (d - 1) (by omega) (k + 1) (by omega) p hp
          · rw [cut_e (by omega)] at hp
            exact absurd hp (by simp)
      exact key s.size 0 (by omega)
    have hl4 := fun L => Tryz.listing40 s L (by omega) hcb
    have hlen := lstT_ln (T := tgt (cutF s 0) s.size) (by omega) hch
    have hcnt := chn_ct hch
    have has := fun L => Tryz.refAssemble20 (bsL (lstT (tgt (cutF s 0) s.size) s.size (cutF s 0))) L (by rw [bsL_size]; omega)
    rw [bsL_list, lst_asm s (by omega)] at has
    have eS : bsL s.data.toList = s := str_ext rfl
    change ∀ L, Con Tryz.prog 6 [.string (bsL (lstT (tgt (cutF s 0) s.size) s.size (cutF s 0)))] L (Is (.tuple #[.string (bsL s.data.toList), .int .i64 0, .int .i64 0]) L) at has
    rw [eS] at has
    have hts := fun L => Tryz.disTargetsS s L (by omega)
    have hcu := fun L => Tryz.refCut s L (by omega)
    have hSr := sortK_lt (tk_nodup (bgP (cutF s 0) s.size) (cutF s 0) [] (by simp))
    have hSm : ∀ n, n ∈ sortK (tkF (bgP (cutF s 0) s.size) [] (cutF s 0)) ↔ tgt (cutF s 0) s.size n := fun n => by rw [sortK_mem, tk_tgt]
    have hSb : ∀ n ∈ sortK (tkF (bgP (cutF s 0) s.size) [] (cutF s 0)), 0 ≤ n ∧ n ≤ s.size := fun n hn => by
      have h1 := ((hSm n).1 hn).1
      rcases h1 with h1 | ⟨p, hp, rfl⟩
      · omega
      · have := (chn_a hch).1 p hp
        omega
    clear hch hok hlen eS
    generalize bsL (lstT (tgt (cutF s 0) s.size) s.size (cutF s 0)) = V at *
    generalize sortK (tkF (bgP (cutF s 0) s.size) [] (cutF s 0)) = S at *
    generalize cutF s 0 = l at *
    have htg := fun a c n L h => Tryz.target40 a c l s.size n L h (by omega) hcb
    clear hcb
    refine con_of Tryz.tysOk Tryz.func3 rfl rfl ?_
    conv => whnf
    repeat' (first
      | ((with_reducible refine Br.df ?_ ?_); (focus (first | assumption | omega)); conv => whnf)
      | ((with_reducible refine Nd.mk ?_ ?_); (focus (first | omega | rfl | assumption | (simp; done))); conv => whnf)
      | (first | ((with_reducible refine Cl.is (hli _ (by ((repeat (first | assumption | apply Tryz.gkCons | apply Tryz.gkApp)); done))) ?_); conv => whnf) | ((with_reducible refine Cl.is (has _) ?_); conv => whnf) | ((with_reducible refine (?_ : Cl _ 7 _ _ _ _)); (refine Cl.new (hts _) (fun _ _ _ _ => ?_)); conv => whnf) | ((with_reducible refine (?_ : Cl _ 8 _ _ _ _)); (refine Cl.new (hcu _) (fun _ _ _ _ => ?_)); conv => whnf)))
    all_goals try (exfalso; omega)
    rename_i a1 c1 hc1 had1 a2 c2 hc2 had2
    clear hli has hts hcu
    have r0 : ris S 0 0 := ⟨Nat.zero_le _, fun i hi => by omega, fun i _ hi => (hSb _ (getD_mem (d := 0) hi)).1⟩
    conv => whnf
    refine Lp.by2 Tryz.tysOk [11, 10] (fun (t k : Nat) => [.int .i64 t, .int .i64 k]) (fun t k => own pcE 67 a2 c2 l :: own intE 3 a1 c1 S :: L) (fun t k => (t ≤ s.size + 1 ∧ k ≤ t) ∧ ris S k t) (fun t k => s.size + 1 - t) (0) (0) (by kernel_rfl) (by (exact Ent.rfl)) (⟨⟨by omega, by omega⟩, r0⟩) ?_
    rintro t k ⟨⟨g1, g2⟩, g3⟩
    conv => whnf
    repeat (intro _; conv => whnf)
    by_cases ht : t ≤ s.size
    · have htg := fun L h => htg a2 c2 (t : Int) L h
      clear hl4 hlv
      by_cases hT : tgt l s.size t
      · have htg := fun L h => Con.dt hT (htg L h)
        obtain ⟨k1, k2, k3⟩ := ris_yes hSr g3 ((hSm _).2 hT)
        have k4 : S.getD k intE.d = (t : Int) := k2
        rw [show (t : Int) + 1 = ((t + 1 : Nat) : Int) by omega] at k3
        clear hT g3 k2 hSr hSm hSb
        conv => whnf
        repeat' (first
          | (first | ((with_reducible refine Br.tt ?_); conv => whnf) | ((with_reducible refine Br.ff ?_); conv => whnf) | ((with_reducible refine Br.dt ?_ ?_); (focus (first | assumption | omega)); conv => whnf) | ((with_reducible refine Br.df ?_ ?_); (focus (first | assumption | omega)); conv => whnf) | ((with_reducible refine Br.ndf ?_ ?_); (focus (first | assumption | omega)); conv => whnf))
          | ((with_reducible refine Ar.i64 ?_ ?_); (focus omega); conv => whnf)
          | ((with_reducible refine Ix.ad ?_ ?_ ?_); (focus (assumption)); (focus (omega)); conv => whnf)
          | ((with_reducible apply Ld.rdk0); (focus ((repeat ((refine Rd.own 1 rfl ?_); (assumption))); done)); (focus rfl); (focus (omega)); (focus rfl); conv => whnf)
          | ((with_reducible refine (?_ : Cl _ 9 _ _ _ _)); (refine Cl.is (htg _ (by ((repeat ((refine Rd.own 0 rfl ?_); (assumption))); done))) ?_); conv => whnf))
        all_goals first | (exfalso; omega) | exact ⟨t + 1, k + 1, by kernel_rfl, by (exact Ent.rfl), ⟨⟨by omega, by omega⟩, k3⟩, by omega⟩
      · have htg := fun L h => Con.df hT (htg L h)
        have k3 := ris_no g3 (fun h => hT ((hSm _).1 h))
        rw [show (t : Int) + 1 = ((t + 1 : Nat) : Int) by omega] at k3
        clear hT g3 hSr hSm hSb
        conv => whnf
        repeat' (first
          | (first | ((with_reducible refine Br.ff ?_); conv => whnf) | ((with_reducible refine Br.dt ?_ ?_); (focus (first | assumption | omega)); conv => whnf))
          | ((with_reducible refine Ar.i64 ?_ ?_); (focus omega); conv => whnf)
          | ((with_reducible refine (?_ : Cl _ 9 _ _ _ _)); (refine Cl.is (htg _ (by ((repeat ((refine Rd.own 0 rfl ?_); (assumption))); done))) ?_); conv => whnf))
        all_goals first | (exfalso; omega) | exact ⟨t + 1, k, by kernel_rfl, by (exact Ent.rfl), ⟨⟨by omega, by omega⟩, k3⟩, by omega⟩
    · have hk : k = S.length := by
        obtain ⟨r1, r2, r3⟩ := g3
        refine Classical.byContradiction fun hc => ?_
        have q1 := r3 k (Nat.le_refl _) (by omega)
        have q2 := (hSb _ (getD_mem (d := 0) (show k < S.length by omega))).2
        omega
      clear g3 hSr hSm hSb htg
      subst hk
      conv => whnf
      repeat' (first
        | (first | ((with_reducible refine Br.tt ?_); conv => whnf) | ((with_reducible refine Br.dt ?_ ?_); (focus (first | assumption | omega)); conv => whnf) | ((with_reducible refine Br.df ?_ ?_); (focus (first | assumption | omega)); conv => whnf) | ((with_reducible refine Br.yes ?_ ?_); (focus (first | (simp; done) | (simp; omega))); conv => whnf))
        | (first | ((with_reducible refine Cl.is (hlv _) ?_); conv => whnf) | ((with_reducible refine Cl.is (hl4 _) ?_); conv => whnf)))
      all_goals first | (exfalso; omega) | (refine Is.ent ?_ ?_; (focus (refine FEnt.ent ?_; (repeat (first | exact FEnt.rfl | refine FEnt.drop ?_)); done)); (exact Is.bool (by simp)))
  · refine con_of Tryz.tysOk Tryz.func3 rfl rfl ?_
    conv => whnf
    repeat' (first
      | ((with_reducible refine Br.dt ?_ ?_); (focus (first | assumption | omega)); conv => whnf)
      | ((with_reducible refine Cl.is (hlv _) ?_); conv => whnf))
    all_goals first | (refine Is.ent ?_ ?_; (focus (exact Ent.rfl)); (exact Is.rfl)) | (exfalso; omega)
end Go.Proofs
