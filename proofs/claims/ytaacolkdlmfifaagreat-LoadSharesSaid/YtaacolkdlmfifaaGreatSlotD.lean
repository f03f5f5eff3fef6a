/- The arbiter of the bus: where units begin, which is next, how many: contracts. -/
import Derived.Test.YtaacolkdlmfifaaGreatSlotL
set_option linter.all false
namespace Go.Proofs
open Go.Eng
set_option linter.unusedVariables false
set_option maxRecDepth 100000
set_option maxHeartbeats 2000000
theorem Tryz.clkNthIs (t n f T : Int) (a : Option Addr) (c : Nat) (xs : List Sp) (L : List HP) (h : nthOk t n f) (hl : xs.length ≤ 5000) (hr : Rd spE L a xs) (hT : NthP xs f t n T) :
    Con Tryz.prog 29 [n64 t, n64 n, n64 f, .slice a xs.length c] L (Is (n64 T) L) :=
  (Tryz.clkNth t n f a c xs L h hl hr).mono (fun v L' hx => by
    obtain ⟨x, r, e, he⟩ := hx
    have e2 := r.uniq (f := f) (by omega) hT
    exact Is.ent he (by rw [e, e2]; exact Is.rfl)) (fun _ _ h => h)
theorem Tryz.slStarts (b : Nat) (n w : Int) (a : Option Addr) (c : Nat) (xs : List Slt) (L : List HP) (hl : xs.length ≤ 1000) (hf : okF n) (h : slOk n xs xs.length) (had : Ad a xs.length) :
    Con Tryz.prog 17 [.pointer (some ⟨b, 0, none⟩), n64 w] (ptc b 76 [n64 n, .slice a xs.length c] :: own slE 58 a c xs :: L)
      (New intE 3 (sortI (rawS xs w)) (ptc b 76 [n64 n, .slice a xs.length c] :: own slE 58 a c xs :: L)) := by
  have hok := slOk_mem h
  refine con_of Tryz.tysOk Tryz.func17 rfl rfl ?_
  conv => whnf
  repeat' (first
    | ((with_reducible refine Br.sn ?_); conv => whnf)
    | (refine Ld.at 0 rfl rfl ?_; conv => whnf))
  conv => whnf
  refine Lp.by3 Tryz.tysOk [17, 5] (fun (k : Nat) (ys : List Int) (x : Option Addr × Nat) => [.int .i64 k, .slice x.1 ys.length x.2]) (fun k ys x => own intE 3 x.1 x.2 ys :: ptc b 76 [n64 n, .slice a xs.length c] :: own slE 58 a c xs :: L) (fun k ys x => k ≤ xs.length ∧ ys = rawS (xs.take k) w ∧ ys.length ≤ x.2 ∧ Ad x.1 ys.length) (fun k ys x => xs.length - k) (0) (([] : List Int)) (((none, 0) : Option Addr × Nat)) (by kernel_rfl) (by (exact Ent.nil)) (⟨by omega, rfl, Nat.le_refl _, fun h => (h rfl).elim⟩) ?_
  rintro k ys ⟨a2, c2⟩ ⟨h1, h2, h3, h4⟩
  conv => whnf
  repeat (intro _; conv => whnf)
  dsimp only at h3 h4
  have hlen := rawS_len (n := n) (w := w) hf.2 (xs := xs.take k) fun s hs => hok s (List.mem_of_mem_take hs)
  have htl : (xs.take k).length ≤ 1000 := by rw [List.length_take]; omega
  rw [← h2] at hlen
  by_cases hk : k < xs.length
  · have hm := (h k hk).1
    by_cases hw : (xs.getD k slE.d).1 = w
    · have hsn := rawS_yes (w := w) hk hw
      rw [← h2] at hsn
      conv => whnf
      repeat' (first
        | (first | ((with_reducible refine Br.dt ?_ ?_); (focus (first | assumption | omega)); conv => whnf) | ((with_reducible refine Br.ndf ?_ ?_); (focus (first | assumption | omega)); conv => whnf))
        | ((with_reducible refine Nd.mk ?_ ?_); (focus (first | omega | rfl | assumption | (simp; done))); conv => whnf)
        | ((with_reducible refine Nc.go' (fun _ => ?_)); conv => whnf)
        | ((with_reducible refine Ix.ad ?_ ?_ ?_); (focus (assumption)); (focus (omega)); conv => whnf)
        | (refine Ld.at 0 rfl rfl ?_; conv => whnf)
        | ((with_reducible apply LdN.rdk); (focus ((repeat ((refine Rd.own 2 rfl ?_); (assumption))); done)); (focus rfl); (focus rfl); (focus (omega)); conv => whnf)
        | (refine St.at 0 rfl (by first | exact Nat.le_of_ble_eq_true rfl | (simp; done)) rfl ?_; conv => whnf))
      rename_i b7
      conv => whnf
      refine Lp.by4 Tryz.tysOk [8, 5] (fun (m : Nat) (fr : Int) (zs : List Int) (x : Option Addr × Nat) => [n64 fr, .slice x.1 zs.length x.2]) (fun m fr zs x => ptc b7 58 [n64 (xs.getD k slE.d).1, n64 (xs.getD k slE.d).2.1, n64 (xs.getD k slE.d).2.2] :: own intE 3 x.1 x.2 zs :: ptc b 76 [n64 n, .slice a xs.length c] :: own slE 58 a c xs :: L) (fun m fr zs x => (m : Int) ≤ ((xs.getD k slE.d).2.2 - (xs.getD k slE.d).2.1) / 4 ∧ fr = (xs.getD k slE.d).2.1 + 4 * (m : Int) ∧ zs = ys ++ (List.range m).map (fun i : Nat => (xs.getD k slE.d).2.1 + 4 * (i : Int)) ∧ zs.length ≤ x.2 ∧ Ad x.1 zs.length) (fun m fr zs x => ((xs.getD k slE.d).2.2 - fr).toNat) (0) ((xs.getD k slE.d).2.1) (ys) (((a2, c2) : Option Addr × Nat)) (by kernel_rfl) (by (exact Ent.rfl)) (⟨by omega, by omega, by simp, h3, h4⟩) ?_
      rintro m fr zs ⟨a3, c3⟩ ⟨g1, g2, g3, g4, g5⟩
      conv => whnf
      repeat (intro _; conv => whnf)
      dsimp only at g4 g5
      have hzl : zs.length ≤ 2000000 := by rw [g3, List.length_append, List.length_map, List.length_range]; omega
      by_cases h6 : fr + 4 ≤ (xs.getD k slE.d).2.2
      · have e : zs ++ [fr] = ys ++ (List.range (m + 1)).map (fun i : Nat => (xs.getD k slE.d).2.1 + 4 * (i : Int)) := by
          rw [g3, g2, List.range_succ, List.map_append, List.append_assoc]; rfl
        conv => whnf
        repeat' (first
          | ((with_reducible refine Br.dt ?_ ?_); (focus (first | assumption | omega)); conv => whnf)
          | ((with_reducible refine Ar.i64 ?_ ?_); (focus omega); conv => whnf)
          | ((with_reducible refine Nc.go' (fun _ => ?_)); conv => whnf)
          | (refine Ld.at 0 rfl rfl ?_; conv => whnf)
          | ((with_reducible refine (?_ : Sm _ (Builtin.append_ _ _ _) _ _)); (((with_reducible apply (Sm.appAt (E := intE) (et := 3) Tryz.tysOk 2)); (focus rfl)); (rotate_left; (focus (exact Rd.ptc 0 rfl [_] rfl)); rotate_right; (focus rfl)); (focus rfl); (focus rfl); (focus rfl); (focus rfl); (focus rfl); (focus rfl); (focus ((simp only [List.length_append, List.length_cons, List.length_nil]); omega)); (intro _ _ _ _); conv => whnf)))
        all_goals (rename_i a4 c4 hc4 had4; exact ⟨m + 1, fr + 4, zs ++ [fr], (a4, c4), by kernel_rfl, by (refine FEnt.ent ?_; (repeat (first | exact FEnt.rfl | (refine FEnt.at 0 rfl ?_; (try simp only [List.eraseIdx_cons_zero, List.eraseIdx_cons_succ, List.eraseIdx_zero, List.tail_cons])) | (refine FEnt.at 1 rfl ?_; (try simp only [List.eraseIdx_cons_zero, List.eraseIdx_cons_succ, List.eraseIdx_zero, List.tail_cons])) | (refine FEnt.at 2 rfl ?_; (try simp only [List.eraseIdx_cons_zero, List.eraseIdx_cons_succ, List.eraseIdx_zero, List.tail_cons])) | refine FEnt.drop ?_)); done), ⟨by omega, by omega, e, hc4, had4⟩, by omega⟩)
      · have em : m = (((xs.getD k slE.d).2.2 - (xs.getD k slE.d).2.1) / 4).toNat := by omega
        have ez : zs = rawS (xs.take (k + 1)) w := by rw [hsn, g3, em]; rfl
        conv => whnf
        repeat' (first
          | ((with_reducible refine Br.df ?_ ?_); (focus (first | assumption | omega)); conv => whnf)
          | ((with_reducible refine Ar.i64 ?_ ?_); (focus omega); conv => whnf)
          | (refine Ld.at 0 rfl rfl ?_; conv => whnf))
        all_goals exact ⟨k + 1, zs, (a3, c3), by kernel_rfl, by (refine FEnt.ent ?_; (repeat (first | exact FEnt.rfl | (refine FEnt.at 1 rfl ?_; (try simp only [List.eraseIdx_cons_zero, List.eraseIdx_cons_succ, List.eraseIdx_zero, List.tail_cons])) | refine FEnt.drop ?_)); done), ⟨by omega, ez, g4, g5⟩, by omega⟩
    · have hsn := rawS_no (w := w) hk hw
      rw [← h2] at hsn
      conv => whnf
      repeat' (first
        | (first | ((with_reducible refine Br.dt ?_ ?_); (focus (first | assumption | omega)); conv => whnf) | ((with_reducible refine Br.ndt ?_ ?_); (focus (first | assumption | omega)); conv => whnf))
        | ((with_reducible refine Ar.i64 ?_ ?_); (focus omega); conv => whnf)
        | ((with_reducible refine Nd.mk ?_ ?_); (focus (first | omega | rfl | assumption | (simp; done))); conv => whnf)
        | ((with_reducible refine Nc.go' (fun _ => ?_)); conv => whnf)
        | ((with_reducible refine Ix.ad ?_ ?_ ?_); (focus (assumption)); (focus (omega)); conv => whnf)
        | (refine Ld.at 0 rfl rfl ?_; conv => whnf)
        | ((with_reducible apply LdN.rdk); (focus ((repeat ((refine Rd.own 2 rfl ?_); (assumption))); done)); (focus rfl); (focus rfl); (focus (omega)); conv => whnf)
        | (refine St.at 0 rfl (by first | exact Nat.le_of_ble_eq_true rfl | (simp; done)) rfl ?_; conv => whnf))
      all_goals exact ⟨k + 1, ys, (a2, c2), by kernel_rfl, by (refine FEnt.ent ?_; (repeat (first | exact FEnt.rfl | (refine FEnt.at 1 rfl ?_; (try simp only [List.eraseIdx_cons_zero, List.eraseIdx_cons_succ, List.eraseIdx_zero, List.tail_cons])) | refine FEnt.drop ?_)); done), ⟨by omega, hsn.symm, h3, h4⟩, by omega⟩
  · have e : k = xs.length := by omega
    subst e
    rw [List.take_length] at h2
    subst h2
    have hsl := sortI_len (rawS xs w)
    conv => whnf
    repeat' (first
      | ((with_reducible refine Br.df ?_ ?_); (focus (first | assumption | omega)); conv => whnf)
      | ((refine Cl.isAt 0 rfl (Tryz.sortInts _ _ _ _ (by omega)) ?_); conv => whnf))
    all_goals exact New.of hsl.symm (by rw [hsl]; exact h3) (by rw [hsl]; exact h4) (by (exact Ent.rfl))
theorem Tryz.slOffs (b : Nat) (n w : Int) (a : Option Addr) (c : Nat) (xs : List Slt) (L : List HP) (hl : xs.length ≤ 1000) (hf : okF n) (h : slOk n xs xs.length) (had : Ad a xs.length) :
    Con Tryz.prog 30 [.pointer (some ⟨b, 0, none⟩), n64 w] (ptc b 76 [n64 n, .slice a xs.length c] :: own slE 58 a c xs :: L)
      (New spE 65 ((sortI (rawS xs w)).map offP) (ptc b 76 [n64 n, .slice a xs.length c] :: own slE 58 a c xs :: L)) := by
  have hst := fun L => Tryz.slStarts b n w a c xs L hl hf h had
  have hbd : ∀ o ∈ sortI (rawS xs w), 0 ≤ o ∧ o < 4096 := fun o ho => by
    rw [starts_eq h] at ho
    have := docS_mem.1 ho
    omega
  have hdl := docS_len n.toNat xs w
  rw [← starts_eq h] at hdl
  generalize sortI (rawS xs w) = ss at *
  refine con_of Tryz.tysOk Tryz.func30 rfl rfl ?_
  conv => whnf
  repeat' ((with_reducible refine Cl.new (hst _) (fun _ _ _ _ => ?_)); conv => whnf)
  rename_i a1 c1 hc1 had1
  conv => whnf
  refine Lp.by3 Tryz.tysOk [12, 5] (fun (k : Nat) (ys : List Sp) (x : Option Addr × Nat) => [.int .i64 k, .slice x.1 ys.length x.2]) (fun k ys x => own spE 65 x.1 x.2 ys :: own intE 3 a1 c1 ss :: ptc b 76 [n64 n, .slice a xs.length c] :: own slE 58 a c xs :: L) (fun k ys x => k ≤ ss.length ∧ ys = (ss.take k).map offP ∧ ys.length ≤ x.2 ∧ Ad x.1 ys.length) (fun k ys x => ss.length - k) (0) (([] : List Sp)) (((none, 0) : Option Addr × Nat)) (by kernel_rfl) (by (exact Ent.nil)) (⟨by omega, rfl, Nat.le_refl _, fun h => (h rfl).elim⟩) ?_
  rintro k ys ⟨a2, c2⟩ ⟨h1, h2, h3, h4⟩
  conv => whnf
  repeat (intro _; conv => whnf)
  dsimp only at h3 h4
  have hyl : ys.length = k := by rw [h2, List.length_map, List.length_take]; omega
  by_cases hk : k < ss.length
  · have hb := hbd _ (getD_mem (d := intE.d) hk)
    have hsn : ys ++ [(ss.getD k intE.d, ss.getD k intE.d + 1)] = (ss.take (k + 1)).map offP := by
      rw [h2, List.take_add_one, List.getElem?_eq_getElem hk, List.map_append]
      simp [List.getD, hk, offP]
    conv => whnf
    repeat' (first
      | ((with_reducible refine Br.dt ?_ ?_); (focus (first | assumption | omega)); conv => whnf)
      | ((with_reducible refine Ar.i64 ?_ ?_); (focus omega); conv => whnf)
      | ((with_reducible refine Nc.go' (fun _ => ?_)); conv => whnf)
      | ((with_reducible refine Ix.ad ?_ ?_ ?_); (focus (assumption)); (focus (omega)); conv => whnf)
      | ((with_reducible apply Ld.rdk0); (focus ((repeat ((refine Rd.own 1 rfl ?_); (assumption))); done)); (focus rfl); (focus (omega)); (focus rfl); conv => whnf)
      | ((with_reducible refine (?_ : Sm _ (Builtin.append_ _ _ _) _ _)); (((with_reducible apply (Sm.appAt (E := spE) (et := 65) Tryz.tysOk 1)); (focus rfl)); (rotate_left; (focus (exact Rd.ptc 0 rfl [(_, _)] rfl)); rotate_right; (focus rfl)); (focus rfl); (focus rfl); (focus rfl); (focus rfl); (focus rfl); (focus rfl); (focus ((simp only [List.length_append, List.length_cons, List.length_nil]); omega)); (intro _ _ _ _); conv => whnf)))
    all_goals (rename_i a4 c4 hc4 had4; exact ⟨k + 1, ys ++ [(ss.getD k intE.d, ss.getD k intE.d + 1)], (a4, c4), by kernel_rfl, by (refine FEnt.ent ?_; (repeat (first | exact FEnt.rfl | (refine FEnt.at 0 rfl ?_; (try simp only [List.eraseIdx_cons_zero, List.eraseIdx_cons_succ, List.eraseIdx_zero, List.tail_cons])) | (refine FEnt.at 1 rfl ?_; (try simp only [List.eraseIdx_cons_zero, List.eraseIdx_cons_succ, List.eraseIdx_zero, List.tail_cons])) | refine FEnt.drop ?_)); done), ⟨by omega, hsn, hc4, had4⟩, by omega⟩)
  · have e : k = ss.length := by omega
    subst e
    rw [List.take_length] at h2
    subst h2
    conv => whnf
    repeat' ((with_reducible refine Br.df ?_ ?_); (focus (first | assumption | omega)); conv => whnf)
    all_goals exact New.of rfl h3 h4 (by (refine FEnt.ent ?_; (repeat (first | exact FEnt.rfl | (refine FEnt.at 0 rfl ?_; (try simp only [List.eraseIdx_cons_zero, List.eraseIdx_cons_succ, List.eraseIdx_zero, List.tail_cons])) | (refine FEnt.at 1 rfl ?_; (try simp only [List.eraseIdx_cons_zero, List.eraseIdx_cons_succ, List.eraseIdx_zero, List.tail_cons])) | refine FEnt.drop ?_)); done))
theorem Tryz.slNext (b : Nat) (n t w T : Int) (a : Option Addr) (c : Nat) (xs : List Slt) (L : List HP) (hl : xs.length ≤ 1000) (hn : 0 < n ∧ n ≤ 4096) (h : slOk n xs xs.length) (had : Ad a xs.length) (ht : 0 ≤ t ∧ t ≤ 2147483647) (hT : NthP ((sortI (rawS xs w)).map offP) n t 1 T) :
    Con Tryz.prog 15 [.pointer (some ⟨b, 0, none⟩), n64 t, n64 w] (ptc b 76 [n64 n, .slice a xs.length c] :: own slE 58 a c xs :: L)
      (Is (n64 T) (ptc b 76 [n64 n, .slice a xs.length c] :: own slE 58 a c xs :: L)) := by
  have hdl := docS_len n.toNat xs w
  rw [← starts_eq h, ← List.length_map (f := offP)] at hdl
  have hof := fun L => Tryz.slOffs b n w a c xs L hl ⟨by omega, by omega⟩ h had
  generalize (sortI (rawS xs w)).map offP = os at *
  have hcl := fun (a : Option Addr) (c : Nat) (L : List HP) (hr : Rd spE L a os) => Tryz.clkNthIs t 1 n T a c os L ⟨⟨by omega, by omega⟩, by omega, by omega, by omega, by omega⟩ (by omega) hr hT
  refine con_of Tryz.tysOk Tryz.func15 rfl rfl ?_
  conv => whnf
  repeat' (first
    | ((with_reducible refine Br.sn ?_); conv => whnf)
    | (refine Ld.at 0 rfl rfl ?_; conv => whnf)
    | ((with_reducible refine Dr.by (id := 3) Tryz.tysOk rfl [(0, 0), (1, 0), (2, 0), (3, 0), (5, 0), (6, 0), (4, 1), (7, 4), (8, 1), (9, 0)] ?_ ?_); (focus kernel_rfl); conv => whnf)
    | ((with_reducible refine (?_ : CD _ 29 _ _ _)); (refine CD.is (fun M => hcl _ _ _ (Rd.app (Rd.own 0 rfl (by assumption)))) ?_); conv => whnf)
    | ((with_reducible refine CN.new (fun M => Con.newAt (List.perm_middle.trans (List.perm_middle.cons _)) (hof _)) (fun _ _ _ _ => ?_)); conv => whnf))
  all_goals (refine Is.ent ?_ ?_; (focus (refine FEnt.ent ?_; (repeat (first | exact FEnt.rfl | (refine FEnt.at 1 rfl ?_; (try simp only [List.eraseIdx_cons_zero, List.eraseIdx_cons_succ, List.eraseIdx_zero, List.tail_cons])) | refine FEnt.drop ?_)); done)); (exact Is.rfl))
theorem Tryz.slNextNo (b : Nat) (n t w : Int) (a : Option Addr) (c : Nat) (xs : List Slt) (L : List HP) (hl : xs.length ≤ 1000) (hn : 0 < n ∧ n ≤ 4096) (h : slOk n xs xs.length) (had : Ad a xs.length) (ht : ¬ (0 ≤ t ∧ t ≤ 2147483647)) :
    Con Tryz.prog 15 [.pointer (some ⟨b, 0, none⟩), n64 t, n64 w] (ptc b 76 [n64 n, .slice a xs.length c] :: own slE 58 a c xs :: L)
      (Is (n64 (-1)) (ptc b 76 [n64 n, .slice a xs.length c] :: own slE 58 a c xs :: L)) := by
  have hof := fun L => Tryz.slOffs b n w a c xs L hl ⟨by omega, by omega⟩ h had
  generalize (sortI (rawS xs w)).map offP = os at *
  have hcn := fun (a : Option Addr) (c : Nat) (L : List HP) => Tryz.clkNthNo t 1 n a c os L (fun hx => ht hx.2.2.2)
  refine con_of Tryz.tysOk Tryz.func15 rfl rfl ?_
  conv => whnf
  repeat' (first
    | ((with_reducible refine Br.sn ?_); conv => whnf)
    | (refine Ld.at 0 rfl rfl ?_; conv => whnf)
    | ((with_reducible refine Dr.by (id := 3) Tryz.tysOk rfl [(0, 0), (1, 0), (2, 0), (3, 0), (5, 0), (6, 0), (4, 1), (7, 4), (8, 1), (9, 0)] ?_ ?_); (focus kernel_rfl); conv => whnf)
    | ((with_reducible refine CD.is (fun M => hcn _ _ _) ?_); conv => whnf)
    | ((with_reducible refine CN.new (fun M => Con.newAt (List.perm_middle.trans (List.perm_middle.cons _)) (hof _)) (fun _ _ _ _ => ?_)); conv => whnf))
  all_goals (refine Is.ent ?_ ?_; (focus (refine FEnt.ent ?_; (repeat (first | exact FEnt.rfl | (refine FEnt.at 1 rfl ?_; (try simp only [List.eraseIdx_cons_zero, List.eraseIdx_cons_succ, List.eraseIdx_zero, List.tail_cons])) | refine FEnt.drop ?_)); done)); (exact Is.rfl))
end Go.Proofs
