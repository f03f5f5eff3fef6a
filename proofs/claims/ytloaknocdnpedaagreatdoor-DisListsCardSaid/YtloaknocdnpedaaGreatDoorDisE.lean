/- Names and pieces: the statements. -/
import Derived.Test.YtloaknocdnpedaaGreatDoorDisD
set_option linter.all false
namespace Go.Proofs
open Go.Eng Go.RowKit
open Classical
set_option linter.unusedVariables false
set_option maxRecDepth 100000
set_option maxHeartbeats 4000000
theorem nm26 : nmS 26 = ⟨#[97, 97]⟩ := by
  unfold nmS
  rw [if_pos (by decide), show (26 : Int).toNat = 26 from rfl, nm_high (by decide), nm_low (by decide)]
  rfl
theorem nm701 : nmS 701 = ⟨#[122, 122]⟩ := by
  unfold nmS
  rw [if_pos (by decide), show (701 : Int).toNat = 701 from rfl, nm_high (by decide), nm_low (by decide)]
  rfl
theorem nm702 : nmS 702 = ⟨#[97, 97, 97]⟩ := by
  unfold nmS
  rw [if_pos (by decide), show (702 : Int).toNat = 702 from rfl, nm_high (by decide), nm_high (by decide), nm_low (by decide)]
  rfl
theorem Tryz.disLive (L : List HP) : Con Tryz.prog 4 [] L (Is (.bool true) L) := by
  have hli := fun L => Tryz.disListing L
  have n1 := fun L => Tryz.disName 26 L
  have n2 := fun L => Tryz.disName 701 L
  have n3 := fun L => Tryz.disName 702 L
  rw [nm26] at n1
  rw [nm701] at n2
  rw [nm702] at n3
  refine con_of Tryz.tysOk Tryz.func4 rfl rfl ?_
  conv => whnf
  repeat' (first
    | (first | ((with_reducible refine Br.tt ?_); conv => whnf) | ((with_reducible refine Br.dt ?_ ?_); (focus (first | assumption | omega)); conv => whnf) | ((with_reducible refine Br.yes ?_ ?_); (focus (first | (simp; done) | (simp; omega))); conv => whnf))
    | ((with_reducible refine Nd.mk ?_ ?_); (focus (first | omega | rfl | assumption | (simp; done))); conv => whnf)
    | (first | ((with_reducible refine Cl.is (hli _) ?_); conv => whnf) | ((with_reducible refine (?_ : Cl _ 11 _ _ _ _)); (first | refine Cl.is (n1 _) ?_ | refine Cl.is (n2 _) ?_ | refine Cl.is (n3 _) ?_); conv => whnf)))
  all_goals (refine Is.ent ?_ ?_; (focus (exact Ent.rfl)); (exact Is.rfl))
/-! the pieces are the program -/
def pcZ (p : Pc) : Int := if p.i then 4 else 1
def zsum : List Pc → Int
  | [] => 0
  | p :: l => pcZ p + zsum l
theorem zsum_snoc (l : List Pc) (p : Pc) : zsum (l ++ [p]) = zsum l + pcZ p := by
  induction l with
  | nil => simp [zsum]
  | cons q l ih => simp only [List.cons_append, zsum, ih]; omega
theorem cut_chain (s : ByteArray) : ∀ (d k : Nat), k + d = s.size → (∀ i, i < (cutF s k).length → ((cutF s k).getD i pcE.d).a = k + zsum ((cutF s k).take i)) ∧ k + zsum (cutF s k) = s.size := by
  intro d
  induction d using Nat.strongRecOn with
  | _ d ih =>
    intro k hk
    by_cases h0 : k < s.size
    · have step : ∀ (p : Pc) (z : Nat), (1 ≤ z ∧ z ≤ d) → pcZ p = z → p.a = k → cutF s k = p :: cutF s (k + z) → (∀ i, i < (cutF s k).length → ((cutF s k).getD i pcE.d).a = k + zsum ((cutF s k).take i)) ∧ k + zsum (cutF s k) = s.size := by
        intro p z hz hp ha he
        obtain ⟨h1, h2⟩ := ih (d - z) (by omega) (k + z) (by omega)
        rw [he]
        refine ⟨fun i hi => ?_, ?_⟩
        · cases i with
          | zero => simp [zsum, ha]
          | succ i =>
            rw [List.length_cons] at hi
            have := h1 i (by omega)
            rw [List.take_succ_cons, zsum, hp]
            show ((cutF s (k + z)).getD i pcE.d).a = _
            rw [this]
            omega
        · rw [zsum, hp]
          omega
      by_cases hi : insAt s k
      · have h4 := hi.1
        exact step (pcI s k) 4 ⟨by omega, by omega⟩ rfl rfl (cut_i hi)
      · exact step (pcB s k) 1 ⟨by omega, by omega⟩ rfl rfl (cut_b h0 hi)
    · rw [cut_e (by omega)]
      refine ⟨fun i hi => absurd hi (by simp), ?_⟩
      simp only [zsum]
      omega
theorem pc_z (p : Pc) : (if p.i then (4 : Int) else 1) = pcZ p := rfl
theorem pcZ_bd (p : Pc) : 1 ≤ pcZ p ∧ pcZ p ≤ 4 := by
  unfold pcZ
  split <;> omega
theorem zsum_nonneg (l : List Pc) : 0 ≤ zsum l := by
  induction l with
  | nil => simp [zsum]
  | cons p l ih => have := pcZ_bd p; simp only [zsum]; omega
theorem zsum_take_step {l : List Pc} {k : Nat} (hk : k < l.length) : zsum (l.take (k + 1)) = zsum (l.take k) + pcZ (l.getD k pcE.d) := by
  rw [List.take_add_one, List.getElem?_eq_getElem hk]
  have e : l.getD k pcE.d = l[k] := by simp [List.getD, hk]
  rw [e]
  exact zsum_snoc _ _
theorem zsum_take_le (l : List Pc) (k : Nat) : zsum (l.take k) ≤ zsum l := by
  induction l generalizing k with
  | nil => simp
  | cons p l ih =>
    cases k with
    | zero => have := zsum_nonneg (p :: l); simpa [zsum] using this
    | succ k => have := ih k; simp only [List.take_succ_cons, zsum]; omega
end Go.Proofs
