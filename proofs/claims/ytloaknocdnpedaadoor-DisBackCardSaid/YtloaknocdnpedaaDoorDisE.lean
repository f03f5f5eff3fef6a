/- Names and pieces: the statements. -/
import Derived.Test.YtloaknocdnpedaaDoorDisD
set_option linter.all false
namespace Go.Proofs
open Go.Eng Go.RowKit
open Classical
set_option linter.unusedVariables false
set_option maxRecDepth 100000
set_option maxHeartbeats 4000000
theorem nm26 : nmS 26 = ⟨#[97, 97]⟩ := by
  unfold nmS
  rw [if_pos (by decide), show (26 : Int).toNat = 26 from rfl, nm_high (by decide), nm_low (by decide)]
  rfl
theorem nm701 : nmS 701 = ⟨#[122, 122]⟩ := by
  unfold nmS
  rw [if_pos (by decide), show (701 : Int).toNat = 701 from rfl, nm_high (by decide), nm_low (by decide)]
  rfl
theorem nm702 : nmS 702 = ⟨#[97, 97, 97]⟩ := by
  unfold nmS
  rw [if_pos (by decide), show (702 : Int).toNat = 702 from rfl, nm_high (by decide), nm_high (by decide), nm_low (by decide)]
  rfl
theorem Tryd.disLive (L : List HP) : Con Tryd.prog 6 [] L (Is (.bool true) L) := by
  have hli := fun L => Tryd.disListing L
  have n1 := fun L => Tryd.disName 26 L
  have n2 := fun L => Tryd.disName 701 L
  have n3 := fun L => Tryd.disName 702 L
  rw [nm26] at n1
  rw [nm701] at n2
  rw [nm702] at n3
  refine con_of Tryd.tysOk Tryd.func6 rfl rfl ?_
  conv => whnf
  repeat' (first
    | (first | ((with_reducible refine Br.tt ?_); conv => whnf) | ((with_reducible refine Br.dt ?_ ?_); (focus (first | assumption | omega)); conv => whnf) | ((with_reducible refine Br.yes ?_ ?_); (focus (first | (simp; done) | (simp; omega))); conv => whnf))
    | ((with_reducible refine Nd.mk ?_ ?_); (focus (first | omega | rfl | assumption | (simp; done))); conv => whnf)
    | (first | ((with_reducible refine Cl.is (hli _) ?_); conv => whnf) | ((with_reducible refine (?_ : Cl _ 10 _ _ _ _)); (first | refine Cl.is (n1 _) ?_ | refine Cl.is (n2 _) ?_ | refine Cl.is (n3 _) ?_); conv => whnf)))
  all_goals (refine Is.ent ?_ ?_; (focus (exact Ent.rfl)); (exact Is.rfl))
theorem Tryd.disNamesLaw (a b : Int) (L : List HP) : Con Tryd.prog 4 [.int .i64 a, .int .i64 b] L (Is (.bool true) L) := by
  have hx := fun L => Tryd.disName a L
  have hy := fun L => Tryd.disName b L
  have hli := fun L => Tryd.disLive L
  by_cases ha : 0 ≤ a ∧ a ≤ 65535
  · obtain ⟨N, rfl⟩ : ∃ N : Nat, a = N := ⟨a.toNat, by omega⟩
    have hr := fun L => Tryd.refName N (by omega) L
    have ex : nmS (N : Int) = ⟨(nm N).toArray⟩ := by unfold nmS; rw [if_pos ha]; rfl
    rw [ex] at hx
    by_cases hb : 0 ≤ b ∧ b ≤ 65535
    · obtain ⟨M, rfl⟩ : ∃ M : Nat, b = M := ⟨b.toNat, by omega⟩
      have ey : nmS (M : Int) = ⟨(nm M).toArray⟩ := by unfold nmS; rw [if_pos hb]; rfl
      rw [ey] at hy
      have he : (⟨(nm N).toArray⟩ : ByteArray) = (⟨(nm M).toArray⟩ : ByteArray) ↔ (N : Int) = M :=
        ⟨fun h => by rw [nm_inj N M (by have := congrArg (fun x => x.data.toList) h; simpa using this)], fun h => by rw [show N = M from by omega]⟩
      clear ex ey
      generalize (⟨(nm N).toArray⟩ : ByteArray) = X at *
      generalize (⟨(nm M).toArray⟩ : ByteArray) = Y at *
      by_cases hNM : (N : Int) = M
      · have hXY := he.2 hNM
        refine con_of Tryd.tysOk Tryd.func4 rfl rfl ?_
        conv => whnf
        repeat' (first
          | (first | ((with_reducible refine Br.tt ?_); conv => whnf) | ((with_reducible refine Br.ff ?_); conv => whnf) | ((with_reducible refine Br.df ?_ ?_); (focus (first | assumption | omega)); conv => whnf) | ((with_reducible refine Br.no ?_ ?_); (focus (first | (simp; done) | (simp; omega))); conv => whnf))
          | (first | ((with_reducible refine (?_ : Cl _ 10 _ _ _ _)); (first | refine Cl.is (hx _) ?_ | refine Cl.is (hy _) ?_); conv => whnf) | ((with_reducible refine Cl.is (hr _) ?_); conv => whnf) | ((with_reducible refine Cl.is (hli _) ?_); conv => whnf)))
        all_goals first | (exfalso; omega) | exact Is.ent (by (exact Ent.rfl)) Is.rfl | exact Is.ent (by (exact Ent.rfl)) (Is.bool (by simp [he]))
      · have hXY : ¬ X = Y := fun h => hNM (he.1 h)
        refine con_of Tryd.tysOk Tryd.func4 rfl rfl ?_
        conv => whnf
        repeat' (first
          | (first | ((with_reducible refine Br.tt ?_); conv => whnf) | ((with_reducible refine Br.ff ?_); conv => whnf) | ((with_reducible refine Br.df ?_ ?_); (focus (first | assumption | omega)); conv => whnf) | ((with_reducible refine Br.no ?_ ?_); (focus (first | (simp; done) | (simp; omega))); conv => whnf))
          | (first | ((with_reducible refine (?_ : Cl _ 10 _ _ _ _)); (first | refine Cl.is (hx _) ?_ | refine Cl.is (hy _) ?_); conv => whnf) | ((with_reducible refine Cl.is (hr _) ?_); conv => whnf) | ((with_reducible refine Cl.is (hli _) ?_); conv => whnf)))
        all_goals first | (exfalso; omega) | exact Is.ent (by (exact Ent.rfl)) Is.rfl | exact Is.ent (by (exact Ent.rfl)) (Is.bool (by simp [he]))
    · clear ex
      generalize (⟨(nm N).toArray⟩ : ByteArray) = X at *
      refine con_of Tryd.tysOk Tryd.func4 rfl rfl ?_
      conv => whnf
      repeat' (first
        | (first | ((with_reducible refine Br.tt ?_); conv => whnf) | ((with_reducible refine Br.ff ?_); conv => whnf) | ((with_reducible refine Br.dt ?_ ?_); (focus (first | assumption | omega)); conv => whnf) | ((with_reducible refine Br.df ?_ ?_); (focus (first | assumption | omega)); conv => whnf) | ((with_reducible refine Br.no ?_ ?_); (focus (first | (simp; done) | (simp; omega))); conv => whnf))
        | (first | ((with_reducible refine (?_ : Cl _ 10 _ _ _ _)); (first | refine Cl.is (hx _) ?_ | refine Cl.is (hy _) ?_); conv => whnf) | ((with_reducible refine Cl.is (hr _) ?_); conv => whnf) | ((with_reducible refine Cl.is (hli _) ?_); conv => whnf))
        | ((with_reducible refine Br.ds (fun _ => ?_) (fun _ => ?_) ) <;> (conv => whnf)))
      all_goals first | (refine Is.ent ?_ ?_; (focus (exact Ent.rfl)); (exact Is.rfl)) | (exfalso; omega)
  · have ex : nmS a = ⟨#[]⟩ := by unfold nmS; rw [if_neg ha]
    rw [ex] at hx
    refine con_of Tryd.tysOk Tryd.func4 rfl rfl ?_
    conv => whnf
    repeat' (first
      | (first | ((with_reducible refine Br.tt ?_); conv => whnf) | ((with_reducible refine Br.ff ?_); conv => whnf) | ((with_reducible refine Br.dt ?_ ?_); (focus (first | assumption | omega)); conv => whnf))
      | (first | ((with_reducible refine (?_ : Cl _ 10 _ _ _ _)); (first | refine Cl.is (hx _) ?_ | refine Cl.is (hy _) ?_); conv => whnf) | ((with_reducible refine Cl.is (hli _) ?_); conv => whnf))
      | ((with_reducible refine Br.ds (fun _ => ?_) (fun _ => ?_) ) <;> (conv => whnf)))
    all_goals first | (refine Is.ent ?_ ?_; (focus (exact Ent.rfl)); (exact Is.rfl)) | (exfalso; omega)
/-! the pieces are the program -/
def pcZ (p : Pc) : Int := if p.i then 4 else 1
def zsum : List Pc → Int
  | [] => 0
  | p :: l => pcZ p + zsum l
theorem zsum_snoc (l : List Pc) (p : Pc) : zsum (l ++ [p]) = zsum l + pcZ p := by
  induction l with
  | nil => simp [zsum]
  | cons q l ih => simp only [List.cons_append, zsum, ih]; omega
theorem cut_chain (s : ByteArray) : ∀ (d k : Nat), k + d = s.size → (∀ i, i < (cutF s k).length → ((cutF s k).getD i pcE.d).a = k + zsum ((cutF s k).take i)) ∧ k + zsum (cutF s k) = s.size := by
  intro d
  induction d using Nat.strongRecOn with
  | _ d ih =>
    intro k hk
    by_cases h0 : k < s.size
    · have step : ∀ (p : Pc) (z : Nat), (1 ≤ z ∧ z ≤ d) → pcZ p = z → p.a = k → cutF s k = p :: cutF s (k + z) → (∀ i, i < (cutF s k).length → ((cutF s k).getD i pcE.d).a = k + zsum ((cutF s k).take i)) ∧ k + zsum (cutF s k) = s.size := by
        intro p z hz hp ha he
        obtain ⟨h1, h2⟩ := ih (d - z) (by omega) (k + z) (by omega)
        rw [he]
        refine ⟨fun i hi => ?_, ?_⟩
        · cases i with
          | zero => simp [zsum, ha]
          | succ i =>
            rw [List.length_cons] at hi
            have := h1 i (by omega)
            rw [List.take_succ_cons, zsum, hp]
            show ((cutF s (k + z)).getD i pcE.d).a = _
            rw [this]
            omega
        · rw [zsum, hp]
          omega
      by_cases hi : insAt s k
      · have h4 := hi.1
        exact step (pcI s k) 4 ⟨by omega, by omega⟩ rfl rfl (cut_i hi)
      · exact step (pcB s k) 1 ⟨by omega, by omega⟩ rfl rfl (cut_b h0 hi)
    · rw [cut_e (by omega)]
      refine ⟨fun i hi => absurd hi (by simp), ?_⟩
      simp only [zsum]
      omega
theorem pc_z (p : Pc) : (if p.i then (4 : Int) else 1) = pcZ p := rfl
theorem pcZ_bd (p : Pc) : 1 ≤ pcZ p ∧ pcZ p ≤ 4 := by
  unfold pcZ
  split <;> omega
theorem zsum_nonneg (l : List Pc) : 0 ≤ zsum l := by
  induction l with
  | nil => simp [zsum]
  | cons p l ih => have := pcZ_bd p; simp only [zsum]; omega
theorem zsum_take_step {l : List Pc} {k : Nat} (hk : k < l.length) : zsum (l.take (k + 1)) = zsum (l.take k) + pcZ (l.getD k pcE.d) := by
  rw [List.take_add_one, List.getElem?_eq_getElem hk]
  have e : l.getD k pcE.d = l[k] := by simp [List.getD, hk]
  rw [e]
  exact zsum_snoc _ _
theorem zsum_take_le (l : List Pc) (k : Nat) : zsum (l.take k) ≤ zsum l := by
  induction l generalizing k with
  | nil => simp
  | cons p l ih =>
    cases k with
    | zero => have := zsum_nonneg (p :: l); simpa [zsum] using this
    | succ k => have := ih k; simp only [List.take_succ_cons, zsum]; omega
theorem Tryd.disCutsLaw (s : ByteArray) (L : List HP) : Con Tryd.prog 3 [.string s] L (Is (.bool true) L) := by
  have hli := fun L => Tryd.disLive L
  by_cases hs : 500 < s.size
  · refine con_of Tryd.tysOk Tryd.func3 rfl rfl ?_
    conv => whnf
    repeat' (first
      | ((with_reducible refine Br.dt ?_ ?_); (focus (first | assumption | omega)); conv => whnf)
      | ((with_reducible refine Cl.is (hli _) ?_); conv => whnf))
    all_goals (refine Is.ent ?_ ?_; (focus (exact Ent.rfl)); (exact Is.rfl))
  · have hc1 := fun L => Tryd.disCut s L (by omega)
    have hc2 := fun L => Tryd.refCut s L (by omega)
    obtain ⟨ch1, ch2⟩ := cut_chain s s.size 0 (by omega)
    generalize cutF s 0 = l at *
    have hll : l.length ≤ 500 := by
      have key : ∀ l : List Pc, (l.length : Int) ≤ zsum l := by
        intro l
        induction l with
        | nil => simp [zsum]
        | cons p l ih => have := pcZ_bd p; simp only [zsum, List.length_cons]; omega
      have := key l
      omega
    refine con_of Tryd.tysOk Tryd.func3 rfl rfl ?_
    conv => whnf
    repeat' (first
      | (first | ((with_reducible refine Br.df ?_ ?_); (focus (first | assumption | omega)); conv => whnf) | ((with_reducible refine Br.ndf ?_ ?_); (focus (first | assumption | omega)); conv => whnf))
      | (first | ((with_reducible refine (?_ : Cl _ 7 _ _ _ _)); (refine Cl.new (hc1 _) (fun _ _ _ _ => ?_)); conv => whnf) | ((with_reducible refine (?_ : Cl _ 8 _ _ _ _)); (refine Cl.new (hc2 _) (fun _ _ _ _ => ?_)); conv => whnf)))
    rename_i a c hc had a2 c2 hc2 had2
    conv => whnf
    refine Lp.by2 Tryd.tysOk [6, 5] (fun (k : Nat) (z : Int) => [.int .i64 k, .int .i64 z]) (fun k z => own pcE 32 a2 c2 l :: own pcE 31 a c l :: L) (fun k z => k ≤ l.length ∧ z = zsum (l.take k)) (fun k z => l.length - k) (0) (0) (by kernel_rfl) (by (exact Ent.rfl)) (⟨by omega, rfl⟩) ?_
    rintro k z ⟨g1, g2⟩
    conv => whnf
    repeat (intro _; conv => whnf)
    by_cases hk : k < l.length
    · have hsz := fun L => Tryd.disSize (l.getD k pcE.d) L
      simp only [pc_z] at hsz
      have hst := zsum_take_step hk
      have hat := ch1 k hk
      have hbd := pcZ_bd (l.getD k pcE.d)
      have hle := zsum_take_le l k
      have hge := zsum_nonneg (l.take k)
      rw [← g2] at hst hat hle hge
      clear g2 ch1
      conv => whnf
      repeat' (first
        | (first | ((with_reducible refine Br.ff ?_); conv => whnf) | ((with_reducible refine Br.dt ?_ ?_); (focus (first | assumption | omega)); conv => whnf) | ((with_reducible refine Br.ndf ?_ ?_); (focus (first | assumption | omega)); conv => whnf) | ((with_reducible refine Br.no ?_ ?_); (focus (first | (simp; done) | (simp; omega))); conv => whnf))
        | ((with_reducible refine Ar.i64 ?_ ?_); (focus omega); conv => whnf)
        | ((with_reducible refine Nd.mk ?_ ?_); (focus (first | omega | rfl | assumption | (simp; done))); conv => whnf)
        | ((with_reducible refine Nc.go' (fun _ => ?_)); conv => whnf)
        | ((with_reducible refine Ix.ad ?_ ?_ ?_); (focus (assumption)); (focus (omega)); conv => whnf)
        | (refine Ld.at 0 rfl rfl ?_; conv => whnf)
        | (first | ((with_reducible apply LdN.rdk); (focus ((repeat ((refine Rd.own 1 rfl ?_); (assumption))); done)); (focus rfl); (focus rfl); (focus (omega)); conv => whnf) | (refine LdN.at 0 rfl (by first | exact Nat.le_of_ble_eq_true rfl | (simp; done)) ?_; conv => whnf))
        | (refine St.at 0 rfl (by first | exact Nat.le_of_ble_eq_true rfl | (simp; done)) rfl ?_; conv => whnf)
        | ((with_reducible refine Dr.by (id := 11) Tryd.tysOk rfl [(0, 0), (2, 0), (4, 0), (6, 0), (9, 0), (10, 0), (11, 0), (1, 1), (3, 1), (5, 1), (7, 1), (8, 0), (12, 1), (13, 0), (14, 0), (15, 0), (17, 0), (16, 1), (18, 0), (19, 0)] ?_ ?_); (focus kernel_rfl); conv => whnf)
        | ((with_reducible refine (?_ : Cl _ 9 _ _ _ _)); (refine Cl.is (hsz _) ?_); conv => whnf))
      all_goals exact ⟨k + 1, z + pcZ (l.getD k pcE.d), by kernel_rfl, by (refine FEnt.ent ?_; (repeat (first | exact FEnt.rfl | (refine FEnt.at 1 rfl ?_; (try simp only [List.eraseIdx_cons_zero, List.eraseIdx_cons_succ, List.eraseIdx_zero, List.tail_cons])) | refine FEnt.drop ?_)); done), ⟨by omega, hst.symm⟩, by omega⟩
    · have e : k = l.length := by omega
      subst e
      rw [List.take_length] at g2
      subst g2
      clear ch1
      conv => whnf
      repeat' (first
        | (first | ((with_reducible refine Br.tt ?_); conv => whnf) | ((with_reducible refine Br.df ?_ ?_); (focus (first | assumption | omega)); conv => whnf))
        | ((with_reducible refine Cl.is (hli _) ?_); conv => whnf))
      all_goals first | (refine Is.ent ?_ ?_; (focus (refine FEnt.ent ?_; (repeat (first | exact FEnt.rfl | refine FEnt.drop ?_)); done)); (exact Is.ttr (by first | assumption | omega))) | (exfalso; omega)
end Go.Proofs
