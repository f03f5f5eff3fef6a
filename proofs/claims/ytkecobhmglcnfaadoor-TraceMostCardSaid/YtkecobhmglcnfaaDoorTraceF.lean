/- The document's marks as text: contracts. -/
import Derived.Test.YtkecobhmglcnfaaDoorTraceD
set_option linter.all false
namespace Go.Proofs
open Go.Eng
open Classical
set_option linter.unusedVariables false
set_option maxRecDepth 100000
set_option maxHeartbeats 4000000
theorem Tryd.refRight (n : Int) (L : List HP) : Con Tryd.prog 39 [z64 n] L (Is (.bool (decide (numP n))) L) := by
  refine con_of Tryd.tysOk Tryd.func39 rfl rfl ?_
  conv => whnf
  repeat' (first
    | (first | ((with_reducible refine Br.tt ?_); conv => whnf) | ((with_reducible refine Br.ff ?_); conv => whnf))
    | ((with_reducible refine Br.ds (fun _ => ?_) (fun _ => ?_) ) <;> (conv => whnf)))
  all_goals (refine Is.ent ?_ ?_; (focus (exact Ent.rfl)); (first | exact Is.ff (by omega) | (refine Is.dec ?_; omega)))
theorem Tryd.refMay33 (m : Mrk) (L : List HP) (hB : MrB m) : Con Tryd.prog 19 [mrV m] L (Is (.bool (decide (MayM m))) L) := by
  have hr := fun n L => Tryd.refRight n L
  have hM : MayM m ↔ (1 ≤ m.s ∧ m.s ≤ 9) ∧ numP m.t ∧ numP m.a ∧ numP m.b ∧ numP m.n := ⟨fun h => ⟨h.s, h.t, h.a, h.b, h.n⟩, fun h => ⟨h.1, h.2.1, h.2.2.1, h.2.2.2.1, h.2.2.2.2⟩⟩
  rw [decide_eq_decide.2 hM]
  by_cases h : 1 ≤ m.s ∧ m.s ≤ 9
  · refine con_of Tryd.tysOk Tryd.func19 rfl rfl ?_
    conv => whnf
    repeat' (first
      | (first | ((with_reducible refine Br.tt ?_); conv => whnf) | ((with_reducible refine Br.ff ?_); conv => whnf) | ((with_reducible refine Br.dt ?_ ?_); (focus (first | assumption | omega)); conv => whnf))
      | ((with_reducible refine Nc.go' (fun _ => ?_)); conv => whnf)
      | (refine Ld.at 0 rfl rfl ?_; conv => whnf)
      | ((with_reducible refine Cl.is (hr _ _) ?_); conv => whnf)
      | ((with_reducible refine Br.ds (fun _ => ?_) (fun _ => ?_) ) <;> (conv => whnf)))
    all_goals first | (refine Is.ent ?_ ?_; (focus (refine FEnt.ent ?_; (repeat (first | exact FEnt.rfl | refine FEnt.drop ?_)); done)); (first | exact Is.ff (by omega) | (refine Is.dec ?_; omega))) | exact Is.ent (by fail) (Is.dec (by omega)) | exact Is.ent (by fail) (Is.ff (by omega))
  · rw [decide_eq_false (fun hh => h hh.1)]
    refine con_of Tryd.tysOk Tryd.func19 rfl rfl ?_
    conv => whnf
    repeat' (first
      | (first | ((with_reducible refine Br.tt ?_); conv => whnf) | ((with_reducible refine Br.ff ?_); conv => whnf) | ((with_reducible refine Br.df ?_ ?_); (focus (first | assumption | omega)); conv => whnf))
      | ((with_reducible refine Nc.go' (fun _ => ?_)); conv => whnf)
      | (refine Ld.at 0 rfl rfl ?_; conv => whnf)
      | ((with_reducible refine Br.ds (fun _ => ?_) (fun _ => ?_) ) <;> (conv => whnf)))
    all_goals first | (refine Is.ent ?_ ?_; (focus (refine FEnt.ent ?_; (repeat (first | exact FEnt.rfl | refine FEnt.drop ?_)); done)); (exact Is.rfl)) | (exfalso; omega)
theorem u8_dig {k : Nat} (h : k < 10) : u8of (48 + (k : Int)) = UInt8.ofNat (48 + k) := by
  unfold u8of
  congr 1
  omega
theorem dec_low {n : Nat} (h : n ≤ 9) : Lib.decDigits n = [u8of (48 + (n : Int))] := by rw [Lib.decDigits, dif_pos (by omega), u8_dig (by omega)]
theorem dec_high {n : Nat} (h : ¬ n ≤ 9) : Lib.decDigits n = Lib.decDigits (n / 10) ++ [u8of (48 + ((n % 10 : Nat) : Int))] := by
  rw [Lib.decDigits, dif_neg (by omega), u8_dig (Nat.mod_lt n (by omega))]
theorem Tryd.refDigits (N : Nat) (hN : N ≤ 2147483647) (L : List HP) : Con Tryd.prog 45 [z64 N] L (Is (.string (bsL (Lib.decDigits N))) L) := by
  refine con_of Tryd.tysOk Tryd.func45 rfl rfl ?_
  conv => whnf
  repeat' skip
  conv => whnf
  refine Lp.by2 Tryd.tysOk [0, 3] (fun (m : Nat) (s : ByteArray) => [.int .i64 m, .string s]) (fun m s => L) (fun m s => m + s.size ≤ N ∧ Lib.decDigits N = Lib.decDigits m ++ s.data.toList) (fun m s => m) (N) ((⟨#[]⟩ : ByteArray)) (by kernel_rfl) (by (exact Ent.rfl)) (⟨Nat.le_refl _, by simp⟩) ?_
  rintro m s ⟨g1, g2⟩
  conv => whnf
  repeat (intro _; conv => whnf)
  by_cases hm : m ≤ 9
  · rw [dec_low hm] at g2
    have e : bsL (Lib.decDigits N) = (⟨#[u8of (48 + (m : Int))]⟩ : ByteArray) ++ s := str_ext (by rw [append_list, bsL_list, g2])
    have hz : (⟨#[u8of (48 + (m : Int))]⟩ : ByteArray).size = 1 := rfl
    rw [e]
    clear g2 e
    conv => whnf
    repeat' (first
      | ((with_reducible refine Br.df ?_ ?_); (focus (first | assumption | omega)); conv => whnf)
      | (first | ((with_reducible refine Ar.u8b ?_); conv => whnf) | ((with_reducible refine Ar.i64 ?_ ?_); (focus omega); conv => whnf))
      | ((with_reducible refine Nd.mk ?_ ?_); (focus (first | omega | rfl | assumption | (simp; done))); conv => whnf)
      | ((with_reducible refine Nc.go' (fun _ => ?_)); conv => whnf)
      | ((with_reducible refine (?_ : Sm _ (convert _ _ _) _ _)); ((apply (Sm.b2s Tryd.tysOk)); (rotate_left; (focus (exact Rd.ptc 0 rfl [_] rfl)); rotate_right; (focus rfl)); (focus rfl); (focus rfl); (focus rfl); (focus rfl); (focus rfl); (focus rfl); conv => whnf)))
    all_goals (refine Is.ent ?_ ?_; (focus (refine FEnt.ent ?_; (repeat (first | exact FEnt.rfl | refine FEnt.drop ?_)); done)); (exact Is.rfl))
  · have t1 : (m : Int).tmod 10 = ((m % 10 : Nat) : Int) := by rw [Int.tmod_eq_emod_of_nonneg (by omega)]; rfl
    have t2 : (m : Int).tdiv 10 = ((m / 10 : Nat) : Int) := by rw [Int.tdiv_eq_ediv_of_nonneg (by omega)]; rfl
    rw [dec_high hm] at g2
    have hz : (⟨#[u8of (48 + ((m % 10 : Nat) : Int))]⟩ : ByteArray).size = 1 := rfl
    have e : Lib.decDigits N = Lib.decDigits (m / 10) ++ ((⟨#[u8of (48 + ((m % 10 : Nat) : Int))]⟩ : ByteArray) ++ s).data.toList := by rw [append_list, g2, List.append_assoc]
    have hz2 : ((⟨#[u8of (48 + ((m % 10 : Nat) : Int))]⟩ : ByteArray) ++ s).size = 1 + s.size := by rw [← size_list, append_list, List.length_append, size_list]; rfl
    clear g2
    conv => whnf
    repeat' (first
      | ((with_reducible refine Br.dt ?_ ?_); (focus (first | assumption | omega)); conv => whnf)
      | (first | ((with_reducible refine Ar.u8b ?_); conv => whnf) | ((with_reducible refine Ar.i64 ?_ ?_); (focus omega); conv => whnf))
      | ((with_reducible refine Nd.mk ?_ ?_); (focus (first | omega | rfl | assumption | (simp; done))); conv => whnf)
      | ((with_reducible refine Nc.go' (fun _ => ?_)); conv => whnf)
      | ((with_reducible refine (?_ : Sm _ (convert _ _ _) _ _)); ((apply (Sm.b2s Tryd.tysOk)); (rotate_left; (focus (exact Rd.ptc 0 rfl [_] rfl)); rotate_right; (focus rfl)); (focus rfl); (focus rfl); (focus rfl); (focus rfl); (focus rfl); (focus rfl); conv => whnf))
      | ((rw [t1]); conv => whnf)
      | ((rw [t2]); conv => whnf))
    all_goals exact ⟨m / 10, (⟨#[u8of (48 + ((m % 10 : Nat) : Int))]⟩ : ByteArray) ++ s, by kernel_rfl, by (refine FEnt.ent ?_; (repeat (first | exact FEnt.rfl | refine FEnt.drop ?_)); done), ⟨by omega, e⟩, by omega⟩
theorem Tryd.refName33 (s : Int) (L : List HP) (hs : 0 ≤ s ∧ s ≤ 255) : Con Tryd.prog 21 [z64 s] L (Is (.string (nameF s)) L) := by
  unfold nameF
  by_cases h : s < 10
  · rw [if_pos h]
    have hc : s = 0 ∨ s = 1 ∨ s = 2 ∨ s = 3 ∨ s = 4 ∨ s = 5 ∨ s = 6 ∨ s = 7 ∨ s = 8 ∨ s = 9 := by omega
    rcases hc with rfl | rfl | rfl | rfl | rfl | rfl | rfl | rfl | rfl | rfl
    all_goals (
      refine con_of Tryd.tysOk Tryd.func21 rfl rfl ?_
      conv => whnf
      repeat' (first
        | (first | ((with_reducible refine Br.ff ?_); conv => whnf) | ((with_reducible refine Br.df ?_ ?_); (focus (first | assumption | omega)); conv => whnf))
        | ((with_reducible refine Nd.mk ?_ ?_); (focus (first | omega | rfl | assumption | (simp; done))); conv => whnf)
        | ((with_reducible refine Nc.go' (fun _ => ?_)); conv => whnf)
        | ((with_reducible refine Ix.ad ?_ ?_ ?_); (focus (exact fun _ => rfl)); (focus (omega)); conv => whnf)
        | (refine Ld.at 0 rfl rfl ?_; conv => whnf)
        | (refine St.at 0 rfl (by first | exact Nat.le_of_ble_eq_true rfl | (simp; done)) rfl ?_; conv => whnf))
      all_goals (refine Is.ent ?_ ?_; (focus (refine FEnt.ent ?_; (repeat (first | exact FEnt.rfl | refine FEnt.drop ?_)); done)); (exact Is.rfl)))
  · rw [if_neg h]
    refine con_of Tryd.tysOk Tryd.func21 rfl rfl ?_
    conv => whnf
    repeat' (first
      | (first | ((with_reducible refine Br.ff ?_); conv => whnf) | ((with_reducible refine Br.dt ?_ ?_); (focus (first | assumption | omega)); conv => whnf) | ((with_reducible refine Br.df ?_ ?_); (focus (first | assumption | omega)); conv => whnf))
      | ((with_reducible refine Nd.mk ?_ ?_); (focus (first | omega | rfl | assumption | (simp; done))); conv => whnf)
      | ((with_reducible refine Nc.go' (fun _ => ?_)); conv => whnf)
      | (refine St.at 0 rfl (by first | exact Nat.le_of_ble_eq_true rfl | (simp; done)) rfl ?_; conv => whnf))
    all_goals first | (refine Is.ent ?_ ?_; (focus (refine FEnt.ent ?_; (repeat (first | exact FEnt.rfl | refine FEnt.drop ?_)); done)); (exact Is.rfl)) | (exfalso; omega)
abbrev allX : ByteArray := ⟨#[48, 49, 50, 51, 52, 53, 54, 55, 56, 57, 97, 98, 99, 100, 101, 102]⟩
theorem allx {a : Nat} (h : a < 16) : allX.extract a (a + 1) = ⟨#[dgU a]⟩ := by
  have key : ∀ i : Fin 16, (allX.extract i.val (i.val + 1)).data.toList = [dgU (i.val : Nat)] := by decide +kernel
  exact str_ext (key ⟨a, h⟩)
theorem Tryd.refHex33 (s : ByteArray) (L : List HP) (hs : s.size ≤ 1000000) : Con Tryd.prog 46 [.string s] L (Is (.string ⟨(hexF s).toArray⟩) L) := by
  unfold hexF
  by_cases h0 : s.size = 0
  · rw [if_pos h0]
    have := size_zero h0
    subst this
    refine con_of Tryd.tysOk Tryd.func46 rfl rfl ?_
    conv => whnf
    repeat' ((with_reducible refine Br.yes ?_ ?_); (focus (first | (simp; done) | (simp; omega))); conv => whnf)
    all_goals (refine Is.ent ?_ ?_; (focus (exact Ent.rfl)); (exact Is.rfl))
  · rw [if_neg h0]
    have hne : ¬ s = ⟨#[]⟩ := fun h => h0 (by rw [h]; rfl)
    have hsl := size_list s
    have hall : (⟨#[48, 49, 50, 51, 52, 53, 54, 55, 56, 57, 97, 98, 99, 100, 101, 102]⟩ : ByteArray).size = 16 := rfl
    refine con_of Tryd.tysOk Tryd.func46 rfl rfl ?_
    conv => whnf
    repeat' ((with_reducible refine Br.df ?_ ?_); (focus (first | assumption | omega)); conv => whnf)
    conv => whnf
    refine Lp.by2 Tryd.tysOk [5, 4] (fun (k : Nat) (o : ByteArray) => [.int .i64 k, .string o]) (fun k o => L) (fun k o => k ≤ s.size ∧ o = bsL ((s.data.toList.take k).flatMap hx2)) (fun k o => s.size - k) (0) ((⟨#[]⟩ : ByteArray)) (by kernel_rfl) (by (exact Ent.rfl)) (⟨by omega, rfl⟩) ?_
    rintro k o ⟨g1, g2⟩
    conv => whnf
    repeat (intro _; conv => whnf)
    have hol : o.size = 2 * k := by rw [g2, bsL_size, hx2_len, List.length_take]; omega
    by_cases hk : k < s.size
    · have e1 := hx2_snoc (xs := s.data.toList) (k := k) (by omega)
      have hu := u8_lt (sAt s k)
      obtain ⟨u, hu2⟩ : ∃ u : Nat, (sAt s k).toNat = u := ⟨_, rfl⟩
      have t1 : (((sAt s k).toNat : Int)).tdiv 16 = ((u / 16 : Nat) : Int) := by rw [hu2, Int.tdiv_eq_ediv_of_nonneg (by omega)]; rfl
      have t2 : (((sAt s k).toNat : Int)).tmod 16 = ((u % 16 : Nat) : Int) := by rw [hu2, Int.tmod_eq_emod_of_nonneg (by omega)]; rfl
      have x1 : (⟨#[48, 49, 50, 51, 52, 53, 54, 55, 56, 57, 97, 98, 99, 100, 101, 102]⟩ : ByteArray).extract (Int.toNat ((u / 16 : Nat) : Int)) (Int.toNat (((u / 16 : Nat) : Int) + 1)) = ⟨#[dgU ((u / 16 : Nat) : Int)]⟩ := allx (a := u / 16) (by omega)
      have x2 : (⟨#[48, 49, 50, 51, 52, 53, 54, 55, 56, 57, 97, 98, 99, 100, 101, 102]⟩ : ByteArray).extract (Int.toNat ((u % 16 : Nat) : Int)) (Int.toNat (((u % 16 : Nat) : Int) + 1)) = ⟨#[dgU ((u % 16 : Nat) : Int)]⟩ := allx (a := u % 16) (by omega)
      have z1 : (⟨#[dgU ((u / 16 : Nat) : Int)]⟩ : ByteArray).size = 1 := rfl
      have z2 : (⟨#[dgU ((u % 16 : Nat) : Int)]⟩ : ByteArray).size = 1 := rfl
      have z3 : (o ++ (⟨#[dgU ((u / 16 : Nat) : Int)]⟩ : ByteArray)).size = o.size + 1 := by rw [← size_list, append_list, List.length_append, size_list]; rfl
      have e2 : o ++ (⟨#[dgU ((u / 16 : Nat) : Int)]⟩ : ByteArray) ++ (⟨#[dgU ((u % 16 : Nat) : Int)]⟩ : ByteArray) = bsL ((s.data.toList.take (k + 1)).flatMap hx2) := str_ext (by
        rw [append_list, append_list, bsL_list, e1, g2, bsL_list, List.append_assoc]
        have hg : s.data.toList.getD k 0 = sAt s k := rfl
        rw [hg, hu2]
        rfl)
      conv => whnf
      repeat' (first
        | ((with_reducible refine Br.dt ?_ ?_); (focus (first | assumption | omega)); conv => whnf)
        | (first | ((with_reducible refine Ar.i64b ?_); conv => whnf) | ((with_reducible refine Ar.i64 ?_ ?_); (focus omega); conv => whnf))
        | ((with_reducible refine Nd.mk ?_ ?_); (focus (first | omega | rfl | assumption | (simp; done))); conv => whnf)
        | ((with_reducible refine SIx.nat ?_ ?_); (focus (omega)); conv => whnf)
        | ((with_reducible refine SubS.mid ?_ ?_); (focus (omega)); conv => whnf)
        | ((with_reducible refine Dr.by (id := 8) Tryd.tysOk rfl [(0, 0), (1, 0), (2, 0), (3, 0), (4, 0), (5, 0), (6, 0), (7, 0), (8, 0), (9, 0), (10, 0), (11, 0)] ?_ ?_); (focus kernel_rfl); conv => whnf)
        | ((with_reducible refine Dr.by (id := 9) Tryd.tysOk rfl [(0, 0), (1, 0), (2, 0), (3, 0), (4, 0), (5, 0), (6, 0), (7, 0), (8, 0), (9, 0), (10, 0), (11, 0), (12, 0), (13, 0)] ?_ ?_); (focus kernel_rfl); conv => whnf)
        | ((rw [t1]); conv => whnf)
        | ((rw [t2]); conv => whnf)
        | ((rw [x1]); conv => whnf)
        | ((rw [x2]); conv => whnf))
      all_goals exact ⟨k + 1, o ++ (⟨#[dgU ((u / 16 : Nat) : Int)]⟩ : ByteArray) ++ (⟨#[dgU ((u % 16 : Nat) : Int)]⟩ : ByteArray), by kernel_rfl, by (exact Ent.rfl), ⟨by omega, e2⟩, by omega⟩
    · have e : k = s.size := by omega
      subst e
      rw [← hsl, List.take_length] at g2
      subst g2
      clear hne
      conv => whnf
      repeat' ((with_reducible refine Br.df ?_ ?_); (focus (first | assumption | omega)); conv => whnf)
      all_goals (refine Is.ent ?_ ?_; (focus (exact Ent.rfl)); (exact Is.rfl))
theorem app_size (a b : ByteArray) : (a ++ b).size = a.size + b.size := by rw [← size_list, append_list, List.length_append, size_list, size_list]
theorem itoa_nat {n : Int} (h : 0 ≤ n) : Lib.itoa n = Lib.decDigits n.toNat := by
  unfold Lib.itoa
  rw [if_neg (by omega)]
theorem dec_size {n : Int} (h : numP n) : (bsL (Lib.decDigits n.toNat)).size ≤ 100 := by
  have := Lib.itoa_length_le n (by have := h; omega) (by have := h; omega)
  rw [itoa_nat h.1] at this
  rw [bsL_size]
  omega
theorem line_join (m : Mrk) (hm : MayM m) : bsL (Lib.decDigits m.t.toNat) ++ ⟨#[32]⟩ ++ nameF m.s ++ ⟨#[32]⟩ ++ bsL (Lib.decDigits m.a.toNat) ++ ⟨#[32]⟩ ++ bsL (Lib.decDigits m.b.toNat) ++ ⟨#[32]⟩ ++ bsL (Lib.decDigits m.n.toNat) ++ ⟨#[32]⟩ ++ (⟨(hexF m.d).toArray⟩ : ByteArray) = bsL (joinF m) := by
  refine str_ext ?_
  have h1 := itoa_nat hm.t.1
  have h2 := itoa_nat hm.a.1
  have h3 := itoa_nat hm.b.1
  have h4 := itoa_nat hm.n.1
  simp only [append_list, bsL_list, joinF, wordsF, List.map_cons, List.map_nil, Lib.join_cons, Lib.joinTail, List.flatten_cons, List.flatten_nil, h1, h2, h3, h4, List.append_assoc, List.cons_append, List.nil_append, List.append_nil]
theorem Tryd.refLine33 (m : Mrk) (L : List HP) (hm : MayM m) (hB : MrB m) (hs : m.d.size ≤ 1000000) : Con Tryd.prog 24 [mrV m] L (Is (.string (bsL (joinF m))) L) := by
  have d1 := fun L => Tryd.refDigits m.t.toNat (by have := hm.t; omega) L
  have d2 := fun L => Tryd.refDigits m.a.toNat (by have := hm.a; omega) L
  have d3 := fun L => Tryd.refDigits m.b.toNat (by have := hm.b; omega) L
  have d4 := fun L => Tryd.refDigits m.n.toNat (by have := hm.n; omega) L
  have e1 : ((m.t.toNat : Nat) : Int) = m.t := by have := hm.t; omega
  have e2 : ((m.a.toNat : Nat) : Int) = m.a := by have := hm.a; omega
  have e3 : ((m.b.toNat : Nat) : Int) = m.b := by have := hm.b; omega
  have e4 : ((m.n.toNat : Nat) : Int) = m.n := by have := hm.n; omega
  rw [e1] at d1
  rw [e2] at d2
  rw [e3] at d3
  rw [e4] at d4
  have hn := fun L => Tryd.refName33 m.s L hB.s
  have hh := fun L => Tryd.refHex33 m.d L hs
  have z1 := dec_size hm.t
  have z2 := dec_size hm.a
  have z3 := dec_size hm.b
  have z4 := dec_size hm.n
  have z5 := nameF_len m.s
  have z6 : (⟨(hexF m.d).toArray⟩ : ByteArray).size ≤ 2000001 := by have := hexF_len m.d; show (hexF m.d).length ≤ _; omega
  have hs0 := hB.s
  rw [← line_join m hm]
  clear hm e1 e2 e3 e4 hB
  generalize bsL (Lib.decDigits m.t.toNat) = A at *
  generalize bsL (Lib.decDigits m.a.toNat) = B at *
  generalize bsL (Lib.decDigits m.b.toNat) = C at *
  generalize bsL (Lib.decDigits m.n.toNat) = D at *
  generalize nameF m.s = N at *
  generalize (⟨(hexF m.d).toArray⟩ : ByteArray) = H at *
  have hz : (⟨#[32]⟩ : ByteArray).size = 1 := rfl
  have y1 := app_size A ⟨#[32]⟩
  have y2 := app_size (A ++ ⟨#[32]⟩) N
  have y3 := app_size (A ++ ⟨#[32]⟩ ++ N) ⟨#[32]⟩
  have y4 := app_size (A ++ ⟨#[32]⟩ ++ N ++ ⟨#[32]⟩) B
  have y5 := app_size (A ++ ⟨#[32]⟩ ++ N ++ ⟨#[32]⟩ ++ B) ⟨#[32]⟩
  have y6 := app_size (A ++ ⟨#[32]⟩ ++ N ++ ⟨#[32]⟩ ++ B ++ ⟨#[32]⟩) C
  have y7 := app_size (A ++ ⟨#[32]⟩ ++ N ++ ⟨#[32]⟩ ++ B ++ ⟨#[32]⟩ ++ C) ⟨#[32]⟩
  have y8 := app_size (A ++ ⟨#[32]⟩ ++ N ++ ⟨#[32]⟩ ++ B ++ ⟨#[32]⟩ ++ C ++ ⟨#[32]⟩) D
  have y9 := app_size (A ++ ⟨#[32]⟩ ++ N ++ ⟨#[32]⟩ ++ B ++ ⟨#[32]⟩ ++ C ++ ⟨#[32]⟩ ++ D) ⟨#[32]⟩
  refine con_of Tryd.tysOk Tryd.func24 rfl rfl ?_
  conv => whnf
  repeat' (first
    | ((with_reducible refine Ar.i64 ?_ ?_); (focus omega); conv => whnf)
    | ((with_reducible refine Nd.mk ?_ ?_); (focus (first | omega | rfl | assumption | (simp; done))); conv => whnf)
    | ((with_reducible refine Nc.go' (fun _ => ?_)); conv => whnf)
    | (refine Ld.at 0 rfl rfl ?_; conv => whnf)
    | ((with_reducible refine Dr.by (id := 1) Tryd.tysOk rfl [(0, 0), (4, 0), (10, 0), (15, 0), (20, 0), (25, 0), (1, 1), (2, 1), (3, 0), (5, 1), (6, 0), (7, 1), (8, 0), (9, 0), (11, 1), (12, 1), (13, 0), (14, 0), (16, 1), (17, 1), (18, 0), (19, 0), (21, 1), (22, 1), (23, 0), (24, 0), (26, 1), (27, 1), (28, 0), (29, 0)] ?_ ?_); (focus kernel_rfl); conv => whnf)
    | (first | ((with_reducible refine CD.is (fun M => d1 _) ?_); conv => whnf) | ((with_reducible refine CD.is (fun M => d2 _) ?_); conv => whnf) | ((with_reducible refine CD.is (fun M => d3 _) ?_); conv => whnf) | ((with_reducible refine CD.is (fun M => d4 _) ?_); conv => whnf) | ((with_reducible refine CD.is (fun M => hn _) ?_); conv => whnf) | ((with_reducible refine CD.is (fun M => hh _) ?_); conv => whnf)))
  all_goals (refine Is.ent ?_ ?_; (focus (refine FEnt.ent ?_; (repeat (first | exact FEnt.rfl | refine FEnt.drop ?_)); done)); (exact Is.rfl))
theorem Tryd.refPrint33 (a : Option Addr) (c : Nat) (xs : List Mrk) (l : List UInt8) (e : Int) (L : List HP) (hN : xs.length ≤ 100000) (hB : ∀ m ∈ xs, MrB m ∧ m.d.size ≤ 1000000) (hr : Rd mrE L a xs) (hR : PrnR xs l e) :
    Con Tryd.prog 17 [.slice a xs.length c] L (Is (.tuple #[.string (bsL l), z64 e]) L) := by
  by_cases hlong : 4096 < xs.length
  · have he : l = [] ∧ e = 4 := by
      cases hR with
      | long h => exact ⟨rfl, rfl⟩
      | no h _ _ _ => omega
      | ok h _ => omega
    obtain ⟨rfl, rfl⟩ := he
    clear hB
    refine con_of Tryd.tysOk Tryd.func17 rfl rfl ?_
    conv => whnf
    repeat' ((with_reducible refine Br.dt ?_ ?_); (focus (first | assumption | omega)); conv => whnf)
    all_goals (refine Is.ent ?_ ?_; (focus (exact Ent.rfl)); (exact Is.rfl))
  · refine con_of Tryd.tysOk Tryd.func17 rfl rfl ?_
    conv => whnf
    repeat' ((with_reducible refine Br.df ?_ ?_); (focus (first | assumption | omega)); conv => whnf)
    conv => whnf
    refine Lp.by2 Tryd.tysOk [5, 4] (fun (k : Nat) (o : ByteArray) => [.int .i64 k, .string o]) (fun k o => L) (fun k o => k ≤ xs.length ∧ o = bsL (prnF (xs.take k)) ∧ ∀ i, i < k → MayM (xs.getD i mrE.d)) (fun k o => xs.length - k) (0) ((⟨#[]⟩ : ByteArray)) (by kernel_rfl) (by (exact Ent.rfl)) (⟨by omega, rfl, fun i hi => by omega⟩) ?_
    rintro k o ⟨g1, g3, g2⟩
    conv => whnf
    repeat (intro _; conv => whnf)
    by_cases hk : k < xs.length
    · have hm := hB _ (getD_mem (d := mrE.d) hk)
      have hmy := fun L => Tryd.refMay33 (xs.getD k mrE.d) L hm.1
      obtain ⟨hmb, hds⟩ := hm
      by_cases hM : MayM (xs.getD k mrE.d)
      · have hmy := fun L => Con.dt hM (hmy L)
        have hln := fun L => Tryd.refLine33 (xs.getD k mrE.d) L hM hmb hds
        have hpl : (prnF (xs.take k)).length ≤ (101 + 2 * 1000000) * (xs.take k).length := prn_len fun m hm => by
          obtain ⟨i, hi, rfl⟩ := List.getElem_of_mem hm
          have hi2 : i < k := by rw [List.length_take] at hi; omega
          rw [List.getElem_take]
          have h1 := g2 i hi2
          have h2 := (hB (xs[i]'(by omega)) (List.getElem_mem _)).2
          rw [show xs.getD i mrE.d = xs[i]'(by omega) from by simp [List.getD, show i < xs.length by omega]] at h1
          exact ⟨h1, h2⟩
        rw [List.length_take, show min k xs.length = k from by omega] at hpl
        have hjl := joinF_len hM
        have hsn := prn_snoc hk
        have hol : o.size ≤ (101 + 2 * 1000000) * k := by rw [g3, bsL_size]; exact hpl
        have z1 : (bsL (joinF (xs.getD k mrE.d))).size ≤ 100 + 2 * 1000000 := by rw [bsL_size]; omega
        have hz : (⟨#[10]⟩ : ByteArray).size = 1 := rfl
        have e1 : o ++ bsL (joinF (xs.getD k mrE.d)) ++ ⟨#[10]⟩ = bsL (prnF (xs.take (k + 1))) := str_ext (by
          rw [append_list, append_list, bsL_list, bsL_list, hsn, g3, bsL_list, List.append_assoc]; rfl)
        have y1 := app_size o (bsL (joinF (xs.getD k mrE.d)))
        clear hR hB hlong hpl hjl hsn g3 hmb hds
        conv => whnf
        repeat' (first
          | (first | ((with_reducible refine Br.nt ?_); conv => whnf) | ((with_reducible refine Br.dt ?_ ?_); (focus (first | assumption | omega)); conv => whnf))
          | ((with_reducible refine Ar.i64 ?_ ?_); (focus omega); conv => whnf)
          | ((with_reducible refine Nd.mk ?_ ?_); (focus (first | omega | rfl | assumption | (simp; done))); conv => whnf)
          | ((with_reducible refine Ix.ad ?_ ?_ ?_); (focus (exact Rd.ad (by assumption))); (focus (omega)); conv => whnf)
          | ((with_reducible apply LdN.rdk); (focus ((repeat (assumption)); done)); (focus rfl); (focus rfl); (focus (omega)); conv => whnf)
          | (first | ((with_reducible refine Cl.is (hmy _) ?_); conv => whnf) | ((with_reducible refine Cl.is (hln _) ?_); conv => whnf)))
        all_goals exact ⟨k + 1, o ++ bsL (joinF (xs.getD k mrE.d)) ++ ⟨#[10]⟩, by kernel_rfl, by (exact Ent.rfl), ⟨by omega, e1, lt_step g2 hM⟩, by omega⟩
      · have hmy := fun L => Con.df hM (hmy L)
        have he : l = [] ∧ e = 2 := by
          cases hR with
          | long h => omega
          | no h _ _ _ => exact ⟨rfl, rfl⟩
          | ok h hm => exact absurd (hm _ (getD_mem hk)) hM
        obtain ⟨rfl, rfl⟩ := he
        clear hR hB g2 g3
        conv => whnf
        repeat' (first
          | (first | ((with_reducible refine Br.nf ?_); conv => whnf) | ((with_reducible refine Br.dt ?_ ?_); (focus (first | assumption | omega)); conv => whnf))
          | ((with_reducible refine Ix.ad ?_ ?_ ?_); (focus (exact Rd.ad (by assumption))); (focus (omega)); conv => whnf)
          | ((with_reducible apply LdN.rdk); (focus ((repeat (assumption)); done)); (focus rfl); (focus rfl); (focus (omega)); conv => whnf)
          | ((with_reducible refine Cl.is (hmy _) ?_); conv => whnf))
        all_goals first | (refine Is.ent ?_ ?_; (focus (exact Ent.rfl)); (exact Is.rfl)) | (exfalso; omega)
    · have e0 : k = xs.length := by omega
      subst e0
      rw [List.take_length] at g3
      have he : l = prnF xs ∧ e = 0 := by
        cases hR with
        | long h => omega
        | no h i hi hb => exact absurd (g2 i hi) hb
        | ok h hm => exact ⟨rfl, rfl⟩
      obtain ⟨rfl, rfl⟩ := he
      subst g3
      clear hR hB g2
      conv => whnf
      repeat' ((with_reducible refine Br.df ?_ ?_); (focus (first | assumption | omega)); conv => whnf)
      all_goals (refine Is.ent ?_ ?_; (focus (exact Ent.rfl)); (exact Is.rfl))
abbrev few60 (xs : List Mrk) : List Mrk := List.take (min (xs.length : Int) 60).toNat xs
theorem Tryd.trcFew (a : Option Addr) (c : Nat) (xs : List Mrk) (L : List HP) (hc : xs.length ≤ c) (hm : c ≤ 9223372036854775807) (hr : Rd mrE L a xs) :
    Con Tryd.prog 15 [.slice a xs.length c] L (Is (.tuple #[.slice a (few60 xs).length c, .bool (decide (∀ m ∈ few60 xs, m.d.size ≤ 300))]) L) := by
  have h60 : (few60 xs).length ≤ 60 := by unfold few60; rw [List.length_take]; omega
  have hr2 : Rd mrE L a (few60 xs) := hr.take _
  obtain ⟨bo, hbo, hbi⟩ : ∃ bo : Bool, bo = decide (∀ m ∈ few60 xs, m.d.size ≤ 300) ∧ (bo = true ↔ ∀ m ∈ few60 xs, m.d.size ≤ 300) := ⟨_, rfl, decide_eq_true_iff⟩
  rw [← hbo]
  clear hbo
  simp only [few60] at *
  refine con_of Tryd.tysOk Tryd.func15 rfl rfl ?_
  conv => whnf
  repeat' ((with_reducible refine Sub.pre ?_ rfl ?_ ?_ ?_); (focus (first | exact Or.inl rfl | exact Or.inr ⟨_, rfl⟩)); (focus (omega)); (focus (omega)); conv => whnf)
  generalize List.take (min (xs.length : Int) 60).toNat xs = us at *
  conv => whnf
  refine Lp.by Tryd.tysOk [4] (fun (k : Nat) => [.int .i64 k]) (fun k => L) (fun k => k ≤ us.length ∧ ∀ i, i < k → (us.getD i mrE.d).d.size ≤ 300) (fun k => us.length - k) (0) (by kernel_rfl) (by (exact Ent.rfl)) (⟨by omega, fun i hi => by omega⟩) ?_
  rintro k ⟨g1, g2⟩
  conv => whnf
  repeat (intro _; conv => whnf)
  by_cases hk : k < us.length
  · by_cases h3 : (us.getD k mrE.d).d.size ≤ 300
    · conv => whnf
      repeat' (first
        | (first | ((with_reducible refine Br.dt ?_ ?_); (focus (first | assumption | omega)); conv => whnf) | ((with_reducible refine Br.df ?_ ?_); (focus (first | assumption | omega)); conv => whnf))
        | ((with_reducible refine Ar.i64 ?_ ?_); (focus omega); conv => whnf)
        | ((with_reducible refine Ix.ad ?_ ?_ ?_); (focus (exact Rd.ad (by assumption))); (focus (omega)); conv => whnf)
        | ((with_reducible apply Ld.rdk); (focus ((repeat (assumption)); done)); (focus rfl); (focus (omega)); (focus rfl); conv => whnf))
      all_goals first | exact ⟨k + 1, by kernel_rfl, by (exact Ent.rfl), ⟨by omega, lt_step g2 h3⟩, by omega⟩ | (exfalso; omega)
    · have hb0 : bo = false := Bool.eq_false_iff.2 (fun h => h3 (hbi.1 h _ (getD_mem hk)))
      subst hb0
      clear g2 hbi
      conv => whnf
      repeat' (first
        | ((with_reducible refine Br.dt ?_ ?_); (focus (first | assumption | omega)); conv => whnf)
        | ((with_reducible refine Ix.ad ?_ ?_ ?_); (focus (exact Rd.ad (by assumption))); (focus (omega)); conv => whnf)
        | ((with_reducible apply Ld.rdk); (focus ((repeat (assumption)); done)); (focus rfl); (focus (omega)); (focus rfl); conv => whnf))
      all_goals first | (refine Is.ent ?_ ?_; (focus (exact Ent.rfl)); (exact Is.rfl)) | (exfalso; omega)
  · have hall : ∀ m ∈ us, m.d.size ≤ 300 := by
      intro m hm
      obtain ⟨i, hi, rfl⟩ := List.getElem_of_mem hm
      have := g2 i (by omega)
      rwa [show us.getD i mrE.d = us[i] from by simp [List.getD, hi]] at this
    have hb1 : bo = true := hbi.2 hall
    subst hb1
    clear g2 hall hbi
    conv => whnf
    repeat' ((with_reducible refine Br.df ?_ ?_); (focus (first | assumption | omega)); conv => whnf)
    all_goals (refine Is.ent ?_ ?_; (focus (exact Ent.rfl)); (exact Is.rfl))
end Go.Proofs
