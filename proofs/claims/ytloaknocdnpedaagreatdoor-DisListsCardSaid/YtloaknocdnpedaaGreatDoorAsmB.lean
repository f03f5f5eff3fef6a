/- The document's reader of a line of a program's text: contracts. -/
import Derived.Test.YtloaknocdnpedaaGreatDoorAsmA
import Derived.Test.YtloaknocdnpedaaGreatDoorEngMore
set_option linter.all false
namespace Go.Proofs
open Go.Eng
open Classical
set_option linter.unusedVariables false
set_option maxRecDepth 100000
set_option maxHeartbeats 4000000
abbrev qI (n : Int) : Value := .int .i64 n
abbrev qB (n : Int) : Value := .int .u8 n
def numE : Enc Int := ⟨1, fun n => [qI n], 0, fun _ => rfl, by omega, fun _ => rfl⟩
/-- a line, and where its rows stand -/
structure LnV where
  l : Ln
  a : Option Addr
  c : Nat
  a' : Option Addr
  c' : Nat
def lvE : Enc LnV := ⟨5, fun v => [.string v.l.lab, .slice v.a v.l.nums.length v.c, .slice v.a' v.l.szs.length v.c', .string v.l.nam, .bool v.l.bad], ⟨nilL, none, 0, none, 0⟩, fun _ => rfl, by omega, fun _ => rfl⟩
abbrev lvC (v : LnV) : List Value := [.string v.l.lab, .slice v.a v.l.nums.length v.c, .slice v.a' v.l.szs.length v.c', .string v.l.nam, .bool v.l.bad]
abbrev lvV (v : LnV) : Value := .agg #[.string v.l.lab, .slice v.a v.l.nums.length v.c, .slice v.a' v.l.szs.length v.c', .string v.l.nam, .bool v.l.bad]
structure LnW (v : LnV) : Prop where
  n : v.l.nums.length ≤ v.c
  na : Ad v.a v.l.nums.length
  s : v.l.szs.length ≤ v.c'
  sa : Ad v.a' v.l.szs.length
theorem Tryz.refLetters (w : ByteArray) (L : List HP) (hs : w.size ≤ 1000000000) : Con Tryz.prog 57 [.string w] L (Is (.bool (decide (Ltrs w))) L) := by
  refine con_of Tryz.tysOk Tryz.func57 rfl rfl ?_
  conv => whnf
  repeat' skip
  conv => whnf
  refine Lp.by Tryz.tysOk [3] (fun (k : Nat) => [.int .i64 k]) (fun k => L) (fun k => k ≤ w.size ∧ ∀ i, i < k → ltr (sAt w i)) (fun k => w.size - k) (0) (by kernel_rfl) (by (exact Ent.rfl)) (⟨by omega, fun i hi => by omega⟩) ?_
  rintro k ⟨g1, g2⟩
  conv => whnf
  repeat (intro _; conv => whnf)
  by_cases hk : k < w.size
  · have hu := u8_lt (sAt w k)
    by_cases hd : ltr (sAt w k)
    · have g3 := lt_step g2 hd
      obtain ⟨d1, d2⟩ := hd
      clear g2
      conv => whnf
      repeat' (first
        | (first | ((with_reducible refine Br.ff ?_); conv => whnf) | ((with_reducible refine Br.dt ?_ ?_); (focus (first | assumption | omega)); conv => whnf) | ((with_reducible refine Br.df ?_ ?_); (focus (first | assumption | omega)); conv => whnf))
        | ((with_reducible refine Ar.i64 ?_ ?_); (focus omega); conv => whnf)
        | ((with_reducible refine SIx.nat ?_ ?_); (focus (omega)); conv => whnf))
      all_goals first | (exfalso; omega) | exact ⟨k + 1, by kernel_rfl, by (exact Ent.rfl), ⟨by omega, g3⟩, by omega⟩
    · have hno : ¬ Ltrs w := fun h => hd (h.all k hk)
      have hd2 : (sAt w k).toNat < 97 ∨ 122 < (sAt w k).toNat := by
        rcases Nat.lt_or_ge (sAt w k).toNat 97 with h | h
        · exact .inl h
        · exact .inr (Nat.lt_of_not_le fun h' => hd ⟨h, h'⟩)
      rw [decide_eq_false hno]
      clear g2 hd hno
      conv => whnf
      repeat' (first
        | (first | ((with_reducible refine Br.tt ?_); conv => whnf) | ((with_reducible refine Br.ff ?_); conv => whnf) | ((with_reducible refine Br.dt ?_ ?_); (focus (first | assumption | omega)); conv => whnf))
        | ((with_reducible refine SIx.nat ?_ ?_); (focus (omega)); conv => whnf)
        | ((with_reducible refine Br.ds (fun _ => ?_) (fun _ => ?_) ) <;> (conv => whnf)))
      all_goals first | (refine Is.ent ?_ ?_; (focus (exact Ent.rfl)); (exact Is.rfl)) | (exfalso; omega)
  · have e0 : k = w.size := by omega
    subst e0
    have e : Ltrs w ↔ 1 ≤ w.size ∧ w.size ≤ 16 := ⟨fun h => ⟨h.ge, h.le⟩, fun h => ⟨h.1, h.2, g2⟩⟩
    clear g2
    by_cases h1 : 1 ≤ w.size
    · by_cases h2 : w.size ≤ 16
      · rw [decide_eq_true (e.2 ⟨h1, h2⟩)]
        clear e
        conv => whnf
        repeat' (first | ((with_reducible refine Br.tt ?_); conv => whnf) | ((with_reducible refine Br.dt ?_ ?_); (focus (first | assumption | omega)); conv => whnf) | ((with_reducible refine Br.df ?_ ?_); (focus (first | assumption | omega)); conv => whnf))
        all_goals first | (refine Is.ent ?_ ?_; (focus (exact Ent.rfl)); (exact Is.ttr (by first | assumption | omega))) | (exfalso; omega)
      · rw [decide_eq_false (fun h => h2 (e.1 h).2)]
        clear e
        conv => whnf
        repeat' (first | ((with_reducible refine Br.tt ?_); conv => whnf) | ((with_reducible refine Br.dt ?_ ?_); (focus (first | assumption | omega)); conv => whnf) | ((with_reducible refine Br.df ?_ ?_); (focus (first | assumption | omega)); conv => whnf))
        all_goals first | (refine Is.ent ?_ ?_; (focus (exact Ent.rfl)); (exact Is.ffr (by first | assumption | omega))) | (exfalso; omega)
    · rw [decide_eq_false (fun h => h1 (e.1 h).1)]
      clear e
      conv => whnf
      repeat' (first | ((with_reducible refine Br.ff ?_); conv => whnf) | ((with_reducible refine Br.df ?_ ?_); (focus (first | assumption | omega)); conv => whnf))
      all_goals first | (refine Is.ent ?_ ?_; (focus (exact Ent.rfl)); (exact Is.rfl)) | (exfalso; omega)
theorem Tryz.refNumber20 (s : ByteArray) (m : Int) (L : List HP) (hs : s.size ≤ 1000000000) (hm : 0 ≤ m ∧ m ≤ 65535) : Con Tryz.prog 58 [.string s, qI m] L (Is (qI (numA s m)) L) := by
  have hsl := size_list s
  by_cases h1 : 1 ≤ s.size ∧ s.size ≤ 5 ∧ (2 ≤ s.size → (sAt s 0).toNat ≠ 48)
  · obtain ⟨h1, h2, h3⟩ := h1
    have hu0 := u8_lt (sAt s 0)
    refine con_of Tryz.tysOk Tryz.func58 rfl rfl ?_
    conv => whnf
    repeat' (first
      | (first | ((with_reducible refine Br.tt ?_); conv => whnf) | ((with_reducible refine Br.ff ?_); conv => whnf) | ((with_reducible refine Br.df ?_ ?_); (focus (first | assumption | omega)); conv => whnf) | ((with_reducible refine Br.no ?_ ?_); (focus (first | (simp; done) | (simp; omega))); conv => whnf))
      | ((with_reducible refine SIx.mk' ?_ ?_); (focus (omega)); conv => whnf)
      | ((with_reducible refine Br.ds (fun _ => ?_) (fun _ => ?_) ) <;> (conv => whnf)))
    all_goals (
      skip
      conv => whnf
      refine Lp.by2 Tryz.tysOk [6, 5] (fun (k : Nat) (n : Int) => [.int .i64 k, .int .i64 n]) (fun k n => L) (fun k n => k ≤ s.size ∧ n = numV (s.data.toList.take k) ∧ (∀ i, i < k → isDig (sAt s i)) ∧ 0 ≤ n ∧ n + 1 ≤ pw k) (fun k n => s.size - k) (0) (0) (by kernel_rfl) (by (exact Ent.rfl)) (⟨by omega, rfl, fun i hi => by omega, by omega, by decide⟩) ?_
      rintro k n ⟨g1, g2, g3, g4, g5⟩
      conv => whnf
      repeat (intro _; conv => whnf)
      by_cases hk : k < s.size
      · have hu := u8_lt (sAt s k)
        have hp := pw_le (k := k) (by omega)
        by_cases hd : isDig (sAt s k)
        · have e := numV_take hk
          rw [← g2] at e
          have hp2 := pw_s k
          obtain ⟨d1, d2⟩ := hd
          have g3' := lt_step g3 ⟨d1, d2⟩
          clear g2 g3
          conv => whnf
          repeat' (first
            | (first | ((with_reducible refine Br.ff ?_); conv => whnf) | ((with_reducible refine Br.dt ?_ ?_); (focus (first | assumption | omega)); conv => whnf) | ((with_reducible refine Br.df ?_ ?_); (focus (first | assumption | omega)); conv => whnf))
            | (first | ((with_reducible refine Ar.i64b ?_); conv => whnf) | ((with_reducible refine Ar.i64 ?_ ?_); (focus omega); conv => whnf))
            | ((with_reducible refine SIx.nat ?_ ?_); (focus (omega)); conv => whnf))
          all_goals first | (exfalso; omega) | exact ⟨k + 1, 10 * n + ((sAt s k).toNat : Int) - 48, by kernel_rfl, by (exact Ent.rfl), ⟨by omega, by omega, g3', by omega, by omega⟩, by omega⟩
        · have hno : numA s m = -1 := by
            unfold numA
            rw [if_neg (fun h => hd (h.1.dig k hk))]
          have hd2 : (sAt s k).toNat < 48 ∨ 57 < (sAt s k).toNat := by
            rcases Nat.lt_or_ge (sAt s k).toNat 48 with h | h
            · exact .inl h
            · exact .inr (Nat.lt_of_not_le fun h' => hd ⟨h, h'⟩)
          rw [hno]
          clear g2 g3 hd
          conv => whnf
          repeat' (first
            | (first | ((with_reducible refine Br.tt ?_); conv => whnf) | ((with_reducible refine Br.ff ?_); conv => whnf) | ((with_reducible refine Br.dt ?_ ?_); (focus (first | assumption | omega)); conv => whnf))
            | ((with_reducible refine SIx.nat ?_ ?_); (focus (omega)); conv => whnf)
            | ((with_reducible refine Br.ds (fun _ => ?_) (fun _ => ?_) ) <;> (conv => whnf)))
          all_goals first | (refine Is.ent ?_ ?_; (focus (exact Ent.rfl)); (exact Is.rfl)) | (exfalso; omega)
      · have e0 : k = s.size := by omega
        subst e0
        rw [← hsl, List.take_length] at g2
        by_cases hmm : n ≤ m
        · have hyes : numA s m = n := by
            unfold numA
            rw [if_pos ⟨⟨h1, h2, h3, g3⟩, by rw [← g2]; exact hmm⟩, g2]
          rw [hyes]
          clear g2 g3
          conv => whnf
          repeat' ((with_reducible refine Br.df ?_ ?_); (focus (first | assumption | omega)); conv => whnf)
          all_goals first | (refine Is.ent ?_ ?_; (focus (exact Ent.rfl)); (exact Is.rfl)) | (exfalso; omega)
        · have hno : numA s m = -1 := by
            unfold numA
            rw [if_neg (fun h => hmm (by rw [g2]; exact h.2))]
          rw [hno]
          clear g2 g3
          conv => whnf
          repeat' (first | ((with_reducible refine Br.dt ?_ ?_); (focus (first | assumption | omega)); conv => whnf) | ((with_reducible refine Br.df ?_ ?_); (focus (first | assumption | omega)); conv => whnf))
          all_goals first | (refine Is.ent ?_ ?_; (focus (exact Ent.rfl)); (exact Is.rfl)) | (exfalso; omega))
  · have hno : numA s m = -1 := by
      unfold numA
      rw [if_neg (fun h => h1 ⟨h.1.ne, h.1.le, h.1.lead⟩)]
    rw [hno]
    have h4 : s.size < 1 ∨ 5 < s.size ∨ (2 ≤ s.size ∧ s.size ≤ 5 ∧ (sAt s 0).toNat = 48) := by
      rcases Nat.lt_or_ge s.size 1 with h0 | h0
      · exact .inl h0
      · rcases Nat.lt_or_ge 5 s.size with h | h
        · exact .inr (.inl h)
        · refine .inr (.inr (Classical.byContradiction fun hc => h1 ⟨h0, h, fun h2 h3 => hc ⟨h2, h, h3⟩⟩))
    clear h1
    rcases h4 with h4 | h4 | ⟨h4, h5, h6⟩
    · refine con_of Tryz.tysOk Tryz.func58 rfl rfl ?_
      conv => whnf
      repeat' (first | ((with_reducible refine Br.tt ?_); conv => whnf) | ((with_reducible refine Br.dt ?_ ?_); (focus (first | assumption | omega)); conv => whnf))
      all_goals first | (refine Is.ent ?_ ?_; (focus (exact Ent.rfl)); (exact Is.rfl)) | (exfalso; omega)
    · refine con_of Tryz.tysOk Tryz.func58 rfl rfl ?_
      conv => whnf
      repeat' (first | ((with_reducible refine Br.tt ?_); conv => whnf) | ((with_reducible refine Br.ff ?_); conv => whnf) | ((with_reducible refine Br.dt ?_ ?_); (focus (first | assumption | omega)); conv => whnf) | ((with_reducible refine Br.df ?_ ?_); (focus (first | assumption | omega)); conv => whnf))
      all_goals first | (refine Is.ent ?_ ?_; (focus (exact Ent.rfl)); (exact Is.rfl)) | (exfalso; omega)
    · refine con_of Tryz.tysOk Tryz.func58 rfl rfl ?_
      conv => whnf
      repeat' (first
        | (first | ((with_reducible refine Br.tt ?_); conv => whnf) | ((with_reducible refine Br.ff ?_); conv => whnf) | ((with_reducible refine Br.dt ?_ ?_); (focus (first | assumption | omega)); conv => whnf) | ((with_reducible refine Br.df ?_ ?_); (focus (first | assumption | omega)); conv => whnf) | ((with_reducible refine Br.yes ?_ ?_); (focus (first | (simp; done) | (simp; omega))); conv => whnf))
        | ((with_reducible refine SIx.mk' ?_ ?_); (focus (omega)); conv => whnf))
      all_goals first | (refine Is.ent ?_ ?_; (focus (exact Ent.rfl)); (exact Is.rfl)) | (exfalso; omega)
theorem Tryz.refRegister (s : ByteArray) (L : List HP) (hs : s.size ≤ 1000000000) : Con Tryz.prog 70 [.string s] L (Is (qI (regA s)) L) := by
  unfold regA
  have hn := fun L => Tryz.refNumber20 (s.extract 1 s.size) 7 L (by rw [ByteArray.size_extract]; omega) (by omega)
  by_cases h1 : s.size = 2
  · have hu0 := u8_lt (sAt s 0)
    by_cases h2 : (sAt s 0).toNat = 114
    · rw [if_pos ⟨h1, h2⟩]
      refine con_of Tryz.tysOk Tryz.func70 rfl rfl ?_
      conv => whnf
      repeat' (first
        | (first | ((with_reducible refine Br.ff ?_); conv => whnf) | ((with_reducible refine Br.ndf ?_ ?_); (focus (first | assumption | omega)); conv => whnf) | ((with_reducible refine Br.no ?_ ?_); (focus (first | (simp; done) | (simp; omega))); conv => whnf))
        | ((with_reducible refine SIx.mk' ?_ ?_); (focus (omega)); conv => whnf)
        | ((with_reducible refine SubS.suf ?_ ?_); (focus (omega)); conv => whnf)
        | ((with_reducible refine (?_ : Cl _ 58 _ _ _ _)); (refine Cl.is (hn _) ?_); conv => whnf))
      all_goals first | (refine Is.ent ?_ ?_; (focus (exact Ent.rfl)); (exact Is.rfl)) | (exfalso; omega)
    · rw [if_neg (fun h => h2 h.2)]
      refine con_of Tryz.tysOk Tryz.func70 rfl rfl ?_
      conv => whnf
      repeat' (first
        | (first | ((with_reducible refine Br.ff ?_); conv => whnf) | ((with_reducible refine Br.ndf ?_ ?_); (focus (first | assumption | omega)); conv => whnf) | ((with_reducible refine Br.yes ?_ ?_); (focus (first | (simp; done) | (simp; omega))); conv => whnf))
        | ((with_reducible refine SIx.mk' ?_ ?_); (focus (omega)); conv => whnf))
      all_goals first | (refine Is.ent ?_ ?_; (focus (exact Ent.rfl)); (exact Is.rfl)) | (exfalso; omega)
  · rw [if_neg (fun h => h1 h.1)]
    refine con_of Tryz.tysOk Tryz.func70 rfl rfl ?_
    conv => whnf
    repeat' (first | ((with_reducible refine Br.tt ?_); conv => whnf) | ((with_reducible refine Br.ndt ?_ ?_); (focus (first | assumption | omega)); conv => whnf))
    all_goals first | (refine Is.ent ?_ ?_; (focus (exact Ent.rfl)); (exact Is.rfl)) | (exfalso; omega)
theorem Tryz.refValue (v : LnV) (w : ByteArray) (L : List HP) (hv : LnW v) (hs : w.size ≤ 1000000000) (h1 : v.l.nums.length ≤ 10) (h2 : v.l.szs.length ≤ 10) :
    Con Tryz.prog 59 [lvV v, .string w] (own numE 3 v.a v.c v.l.nums :: own numE 3 v.a' v.c' v.l.szs :: L)
      (Exs lvV (fun y => own numE 3 y.a y.c y.l.nums :: own numE 3 y.a' y.c' y.l.szs :: L) (fun y => y.l = valF v.l w ∧ LnW y)) := by
  obtain ⟨⟨lab, nums, szs, nam, bad⟩, a, c, a', c'⟩ := v
  obtain ⟨v1, v2, v3, v4⟩ := hv
  dsimp only at v1 v2 v3 v4 h1 h2
  have hlt := fun L => Tryz.refLetters w L hs
  by_cases hl : Ltrs w
  · have hlt := fun L => Con.dt hl (hlt L)
    have hvf : valF ⟨lab, nums, szs, nam, bad⟩ w = ⟨lab, nums ++ [0], szs ++ [2], w, bad⟩ := if_pos hl
    rw [hvf]
    clear hvf
    refine con_of Tryz.tysOk Tryz.func59 rfl rfl ?_
    conv => whnf
    repeat' (first
      | ((with_reducible refine Br.tt ?_); conv => whnf)
      | ((with_reducible refine Nd.mk ?_ ?_); (focus (first | omega | rfl | assumption | (simp; done))); conv => whnf)
      | ((with_reducible refine Nc.go' (fun _ => ?_)); conv => whnf)
      | (first | (refine Ld.at 1 rfl rfl ?_; conv => whnf) | (refine Ld.at 3 rfl rfl ?_; conv => whnf))
      | (first | (refine LdN.at 4 rfl (by first | exact Nat.le_of_ble_eq_true rfl | (simp; done)) ?_; conv => whnf) | (refine LdN.at 5 rfl (by first | exact Nat.le_of_ble_eq_true rfl | (simp; done)) ?_; conv => whnf))
      | (first | (refine St.at 1 rfl (by first | exact Nat.le_of_ble_eq_true rfl | (simp; done)) rfl ?_; conv => whnf) | (refine St.at 3 rfl (by first | exact Nat.le_of_ble_eq_true rfl | (simp; done)) rfl ?_; conv => whnf) | (refine St.at 4 rfl (by first | exact Nat.le_of_ble_eq_true rfl | (simp; done)) rfl ?_; conv => whnf) | (refine St.at 5 rfl (by first | exact Nat.le_of_ble_eq_true rfl | (simp; done)) rfl ?_; conv => whnf))
      | ((with_reducible refine Cl.is (hlt _) ?_); conv => whnf)
      | ((with_reducible refine (?_ : Sm _ (Builtin.append_ _ _ _) _ _)); ((first | ((with_reducible apply (Sm.appAt (E := numE) (et := 3) Tryz.tysOk 3)); (focus rfl)) | ((with_reducible apply (Sm.appAt (E := numE) (et := 3) Tryz.tysOk 5)); (focus rfl))); (rotate_left; (focus (exact Rd.ptc 0 rfl [_] rfl)); rotate_right; (focus rfl)); (focus rfl); (focus rfl); (focus rfl); (focus rfl); (focus rfl); (focus rfl); (focus ((simp only [List.length_append, List.length_cons, List.length_nil]); omega)); (intro _ _ _ _); conv => whnf)))
    rename_i a5 c5 hc5 had5 b6 a6 c6 hc6 had6
    exact Exs.of (⟨⟨lab, nums ++ [0], szs ++ [2], w, bad⟩, a5, c5, a6, c6⟩ : LnV) (by (try dsimp only); (refine FEnt.ent ?_; (repeat (first | exact FEnt.rfl | (refine FEnt.at 0 rfl ?_; (try simp only [List.eraseIdx_cons_zero, List.eraseIdx_cons_succ, List.eraseIdx_zero, List.tail_cons])) | (refine FEnt.at 2 rfl ?_; (try simp only [List.eraseIdx_cons_zero, List.eraseIdx_cons_succ, List.eraseIdx_zero, List.tail_cons])) | refine FEnt.drop ?_)); done)) ⟨rfl, ⟨hc5, had5, hc6, had6⟩⟩ rfl
  · have hlt := fun L => Con.df hl (hlt L)
    have hvf : valF ⟨lab, nums, szs, nam, bad⟩ w = ⟨lab, nums ++ [numA w 65535], szs ++ [2], nam, bad || decide (numA w 65535 < 0)⟩ := if_neg hl
    have hnb := fun L => Tryz.refNumber20 w 65535 L hs (by omega)
    rw [hvf]
    clear hvf
    cases bad with
    | true =>
      refine con_of Tryz.tysOk Tryz.func59 rfl rfl ?_
      conv => whnf
      repeat' (first
        | (first | ((with_reducible refine Br.tt ?_); conv => whnf) | ((with_reducible refine Br.ff ?_); conv => whnf))
        | ((with_reducible refine Nd.mk ?_ ?_); (focus (first | omega | rfl | assumption | (simp; done))); conv => whnf)
        | ((with_reducible refine Nc.go' (fun _ => ?_)); conv => whnf)
        | (first | (refine Ld.at 1 rfl rfl ?_; conv => whnf) | (refine Ld.at 3 rfl rfl ?_; conv => whnf))
        | (first | (refine LdN.at 4 rfl (by first | exact Nat.le_of_ble_eq_true rfl | (simp; done)) ?_; conv => whnf) | (refine LdN.at 5 rfl (by first | exact Nat.le_of_ble_eq_true rfl | (simp; done)) ?_; conv => whnf))
        | (first | (refine St.at 1 rfl (by first | exact Nat.le_of_ble_eq_true rfl | (simp; done)) rfl ?_; conv => whnf) | (refine St.at 3 rfl (by first | exact Nat.le_of_ble_eq_true rfl | (simp; done)) rfl ?_; conv => whnf) | (refine St.at 4 rfl (by first | exact Nat.le_of_ble_eq_true rfl | (simp; done)) rfl ?_; conv => whnf) | (refine St.at 5 rfl (by first | exact Nat.le_of_ble_eq_true rfl | (simp; done)) rfl ?_; conv => whnf))
        | (first | ((with_reducible refine Cl.is (hlt _) ?_); conv => whnf) | ((with_reducible refine Cl.is (hnb _) ?_); conv => whnf))
        | ((with_reducible refine (?_ : Sm _ (Builtin.append_ _ _ _) _ _)); ((first | ((with_reducible apply (Sm.appAt (E := numE) (et := 3) Tryz.tysOk 3)); (focus rfl)) | ((with_reducible apply (Sm.appAt (E := numE) (et := 3) Tryz.tysOk 5)); (focus rfl))); (rotate_left; (focus (exact Rd.ptc 0 rfl [_] rfl)); rotate_right; (focus rfl)); (focus rfl); (focus rfl); (focus rfl); (focus rfl); (focus rfl); (focus rfl); (focus ((simp only [List.length_append, List.length_cons, List.length_nil]); omega)); (intro _ _ _ _); conv => whnf)))
      rename_i a5 c5 hc5 had5 b6 a6 c6 hc6 had6
      exact Exs.of (⟨⟨lab, nums ++ [numA w 65535], szs ++ [2], nam, true⟩, a5, c5, a6, c6⟩ : LnV) (by (try dsimp only); (refine FEnt.ent ?_; (repeat (first | exact FEnt.rfl | (refine FEnt.at 0 rfl ?_; (try simp only [List.eraseIdx_cons_zero, List.eraseIdx_cons_succ, List.eraseIdx_zero, List.tail_cons])) | (refine FEnt.at 2 rfl ?_; (try simp only [List.eraseIdx_cons_zero, List.eraseIdx_cons_succ, List.eraseIdx_zero, List.tail_cons])) | refine FEnt.drop ?_)); done)) ⟨rfl, ⟨hc5, had5, hc6, had6⟩⟩ rfl
    | false =>
      refine con_of Tryz.tysOk Tryz.func59 rfl rfl ?_
      conv => whnf
      repeat' (first
        | ((with_reducible refine Br.ff ?_); conv => whnf)
        | ((with_reducible refine Nd.mk ?_ ?_); (focus (first | omega | rfl | assumption | (simp; done))); conv => whnf)
        | ((with_reducible refine Nc.go' (fun _ => ?_)); conv => whnf)
        | (first | (refine Ld.at 1 rfl rfl ?_; conv => whnf) | (refine Ld.at 3 rfl rfl ?_; conv => whnf))
        | (first | (refine LdN.at 4 rfl (by first | exact Nat.le_of_ble_eq_true rfl | (simp; done)) ?_; conv => whnf) | (refine LdN.at 5 rfl (by first | exact Nat.le_of_ble_eq_true rfl | (simp; done)) ?_; conv => whnf))
        | (first | (refine St.at 1 rfl (by first | exact Nat.le_of_ble_eq_true rfl | (simp; done)) rfl ?_; conv => whnf) | (refine St.at 3 rfl (by first | exact Nat.le_of_ble_eq_true rfl | (simp; done)) rfl ?_; conv => whnf) | (refine St.at 4 rfl (by first | exact Nat.le_of_ble_eq_true rfl | (simp; done)) rfl ?_; conv => whnf) | (refine St.at 5 rfl (by first | exact Nat.le_of_ble_eq_true rfl | (simp; done)) rfl ?_; conv => whnf))
        | (first | ((with_reducible refine Cl.is (hlt _) ?_); conv => whnf) | ((with_reducible refine Cl.is (hnb _) ?_); conv => whnf))
        | ((with_reducible refine (?_ : Sm _ (Builtin.append_ _ _ _) _ _)); ((first | ((with_reducible apply (Sm.appAt (E := numE) (et := 3) Tryz.tysOk 3)); (focus rfl)) | ((with_reducible apply (Sm.appAt (E := numE) (et := 3) Tryz.tysOk 5)); (focus rfl))); (rotate_left; (focus (exact Rd.ptc 0 rfl [_] rfl)); rotate_right; (focus rfl)); (focus rfl); (focus rfl); (focus rfl); (focus rfl); (focus rfl); (focus rfl); (focus ((simp only [List.length_append, List.length_cons, List.length_nil]); omega)); (intro _ _ _ _); conv => whnf)))
      rename_i a5 c5 hc5 had5 b6 a6 c6 hc6 had6
      exact Exs.of (⟨⟨lab, nums ++ [numA w 65535], szs ++ [2], nam, decide (numA w 65535 < 0)⟩, a5, c5, a6, c6⟩ : LnV) (by (try dsimp only); (refine FEnt.ent ?_; (repeat (first | exact FEnt.rfl | (refine FEnt.at 0 rfl ?_; (try simp only [List.eraseIdx_cons_zero, List.eraseIdx_cons_succ, List.eraseIdx_zero, List.tail_cons])) | (refine FEnt.at 2 rfl ?_; (try simp only [List.eraseIdx_cons_zero, List.eraseIdx_cons_succ, List.eraseIdx_zero, List.tail_cons])) | refine FEnt.drop ?_)); done)) ⟨rfl, ⟨hc5, had5, hc6, had6⟩⟩ rfl
theorem Tryz.refSplit (c : UInt8) (s : ByteArray) (L : List HP) (hs : s.size ≤ 100000000) : Con Tryz.prog 34 [.string s, qB c.toNat] L (New strE 9 ((splL c s.data.toList).map bsL) L) := by
  have hl := size_list s
  have hcb := u8_lt c
  refine con_of Tryz.tysOk Tryz.func34 rfl rfl ?_
  conv => whnf
  repeat' ((with_reducible refine Nc.go' (fun _ => ?_)); conv => whnf)
  rename_i b8
  conv => whnf
  refine Lp.by3 Tryz.tysOk [7, 6, 5] (fun (k : Nat) (w : ByteArray) (P : Option Addr × Nat × List ByteArray) => [.int .i64 k, .string w, .slice P.1 P.2.2.length P.2.1]) (fun k w P => own strE 9 P.1 P.2.1 P.2.2 :: L) (fun k w P => (k ≤ s.size ∧ w.size ≤ k) ∧ (P.2.2 ++ bsL (w.data.toList ++ (spl c (s.data.toList.drop k)).1) :: (spl c (s.data.toList.drop k)).2.map bsL = (splL c s.data.toList).map bsL ∧ P.2.2.length ≤ k ∧ P.2.2.length ≤ P.2.1 ∧ Ad P.1 P.2.2.length)) (fun k w P => s.size - k) (0) ((⟨#[]⟩ : ByteArray)) (((some ⟨b8, 0, none⟩, 0, []) : Option Addr × Nat × List ByteArray)) (by kernel_rfl) (by (refine FEnt.ent ?_; (repeat (first | exact FEnt.rfl | (refine FEnt.own0 0 rfl ?_; (try simp only [List.eraseIdx_cons_zero, List.eraseIdx_cons_succ, List.eraseIdx_zero, List.tail_cons])))); done)) (⟨⟨by omega, by decide⟩, ⟨rfl, by simp, by simp, fun _ => rfl⟩⟩) ?_
  rintro k w ⟨a, cc, ys⟩ ⟨⟨g0, g1⟩, g2, g3, g4, g5⟩
  conv => whnf
  repeat (intro _; conv => whnf)
  dsimp only at g2 g3 g4 g5
  by_cases hk : k < s.size
  · have hu := u8_lt (sAt s k)
    rw [drop_at hk] at g2
    by_cases hx : sAt s k = c
    · have hx2 : ((sAt s k).toNat : Int) = (c.toNat : Int) := by rw [hx]
      rw [hx] at g2
      have e : (ys ++ [w]) ++ bsL ([] ++ (spl c (s.data.toList.drop (k + 1))).1) :: (spl c (s.data.toList.drop (k + 1))).2.map bsL = (splL c s.data.toList).map bsL := by
        rw [← g2]
        simp only [spl, if_true, List.append_nil, List.append_assoc, List.cons_append, List.nil_append, List.map_cons]
      clear g2
      conv => whnf
      repeat' (first
        | ((with_reducible refine Br.dt ?_ ?_); (focus (first | assumption | omega)); conv => whnf)
        | ((with_reducible refine Ar.i64 ?_ ?_); (focus omega); conv => whnf)
        | ((with_reducible refine Nc.go' (fun _ => ?_)); conv => whnf)
        | ((with_reducible refine SIx.nat ?_ ?_); (focus (omega)); conv => whnf)
        | ((with_reducible refine (?_ : Sm _ (Builtin.append_ _ _ _) _ _)); (((with_reducible apply (Sm.appAt (E := strE) (et := 9) Tryz.tysOk 1)); (focus rfl)); (rotate_left; (focus (exact Rd.ptc 0 rfl [_] rfl)); rotate_right; (focus rfl)); (focus rfl); (focus rfl); (focus rfl); (focus rfl); (focus rfl); (focus rfl); (focus ((simp only [List.length_append, List.length_cons, List.length_nil]); omega)); (intro _ _ _ _); conv => whnf)))
      all_goals try (exfalso; omega)
      rename_i a5 c5 hc5 had5
      exact ⟨k + 1, (⟨#[]⟩ : ByteArray), (a5, c5, ys ++ [w]), by kernel_rfl, by (try dsimp only); (refine FEnt.ent ?_; (repeat (first | exact FEnt.rfl | (refine FEnt.at 0 rfl ?_; (try simp only [List.eraseIdx_cons_zero, List.eraseIdx_cons_succ, List.eraseIdx_zero, List.tail_cons])) | refine FEnt.drop ?_)); done), ⟨⟨by omega, by exact Nat.zero_le _⟩, e, by rw [List.length_append]; simp only [List.length_cons, List.length_nil]; omega, hc5, had5⟩, by omega⟩
    · have hx2 : ¬ ((sAt s k).toNat : Int) = (c.toNat : Int) := fun h => hx (UInt8.toNat_inj.1 (by omega))
      have xk : s.extract (Int.toNat (k : Int)) (Int.toNat ((k : Int) + 1)) = ⟨#[sAt s k]⟩ := ext_one hk
      have hz : (⟨#[sAt s k]⟩ : ByteArray).size = 1 := rfl
      have hz2 : (w ++ (⟨#[sAt s k]⟩ : ByteArray)).size = w.size + 1 := by rw [app_size]; rfl
      have e : ys ++ bsL ((w ++ (⟨#[sAt s k]⟩ : ByteArray)).data.toList ++ (spl c (s.data.toList.drop (k + 1))).1) :: (spl c (s.data.toList.drop (k + 1))).2.map bsL = (splL c s.data.toList).map bsL := by
        rw [← g2]
        simp only [spl, if_neg hx, append_list, List.append_assoc]
        rfl
      clear g2
      conv => whnf
      repeat' (first
        | (first | ((with_reducible refine Br.dt ?_ ?_); (focus (first | assumption | omega)); conv => whnf) | ((with_reducible refine Br.df ?_ ?_); (focus (first | assumption | omega)); conv => whnf))
        | ((with_reducible refine Ar.i64 ?_ ?_); (focus omega); conv => whnf)
        | ((with_reducible refine Nd.mk ?_ ?_); (focus (first | omega | rfl | assumption | (simp; done))); conv => whnf)
        | ((with_reducible refine SIx.nat ?_ ?_); (focus (omega)); conv => whnf)
        | ((with_reducible refine SubS.mid ?_ ?_); (focus (omega)); conv => whnf)
        | ((rw [xk]); conv => whnf))
      all_goals try (exfalso; omega)
      all_goals exact ⟨k + 1, w ++ (⟨#[sAt s k]⟩ : ByteArray), (a, cc, ys), by kernel_rfl, by (try dsimp only); (exact Ent.rfl), ⟨⟨by omega, by omega⟩, e, by (try dsimp only); omega, g4, g5⟩, by omega⟩
  · have e0 : s.data.toList.drop k = [] := List.drop_eq_nil_of_le (by omega)
    rw [e0] at g2
    have e : ys ++ [w] = (splL c s.data.toList).map bsL := by
      rw [← g2]
      simp only [spl, List.append_nil, List.map_nil]
    rw [← e]
    clear g2 e
    conv => whnf
    repeat' (first
      | ((with_reducible refine Br.df ?_ ?_); (focus (first | assumption | omega)); conv => whnf)
      | ((with_reducible refine Nc.go' (fun _ => ?_)); conv => whnf)
      | ((with_reducible refine (?_ : Sm _ (Builtin.append_ _ _ _) _ _)); (((with_reducible apply (Sm.appAt (E := strE) (et := 9) Tryz.tysOk 1)); (focus rfl)); (rotate_left; (focus (exact Rd.ptc 0 rfl [_] rfl)); rotate_right; (focus rfl)); (focus rfl); (focus rfl); (focus rfl); (focus rfl); (focus rfl); (focus rfl); (focus ((simp only [List.length_append, List.length_cons, List.length_nil]); omega)); (intro _ _ _ _); conv => whnf)))
    all_goals (rename_i a5 c5 hc5 had5; exact New.of rfl hc5 had5 (by (refine FEnt.ent ?_; (repeat (first | exact FEnt.rfl | (refine FEnt.at 0 rfl ?_; (try simp only [List.eraseIdx_cons_zero, List.eraseIdx_cons_succ, List.eraseIdx_zero, List.tail_cons])) | refine FEnt.drop ?_)); done)))
end Go.Proofs
