/- The document's listing: contracts. -/
import Derived.Test.YtloaknocdnpedaaGreatDoorDisR
import Derived.Test.YtloaknocdnpedaaGreatDoorAsmD
set_option linter.all false
namespace Go.Proofs
open Go.Eng Go.RowKit
open Classical
set_option linter.unusedVariables false
set_option maxRecDepth 100000
set_option maxHeartbeats 4000000
theorem Tryz.goes40 (p : Pc) (L : List HP) (hc : 0 ≤ p.c ∧ p.c ≤ 255) : Con Tryz.prog 23 [pcV p] L (Is (.bool (decide (goesP p))) L) := by
  obtain ⟨a, i, c, x, n, b⟩ := p
  dsimp only at hc
  cases i with
  | false =>
    rw [decide_eq_false (fun h : goesP ⟨a, false, c, x, n, b⟩ => absurd h.1 (by show ¬ false = true; decide))]
    change Con Tryz.prog 23 [.agg #[i64W a, .bool false, u8W c, i64W x, i64W n, i64W b]] L _
    refine con_of Tryz.tysOk Tryz.func23 rfl rfl ?_
    conv => whnf
    repeat' (first
      | ((with_reducible refine Br.ff ?_); conv => whnf)
      | ((with_reducible refine Ar.i64 ?_ ?_); (focus omega); conv => whnf)
      | ((with_reducible refine Nc.go' (fun _ => ?_)); conv => whnf)
      | (refine Ld.at 0 rfl rfl ?_; conv => whnf))
    all_goals first | (refine Is.ent ?_ ?_; (focus (refine FEnt.ent ?_; (repeat (first | exact FEnt.rfl | refine FEnt.drop ?_)); done)); (exact Is.rfl)) | (exfalso; omega)
  | true =>
    by_cases h : 11 ≤ c ∧ c ≤ 13
    · rw [decide_eq_true (show goesP ⟨a, true, c, x, n, b⟩ from ⟨rfl, h⟩)]
      change Con Tryz.prog 23 [.agg #[i64W a, .bool true, u8W c, i64W x, i64W n, i64W b]] L _
      refine con_of Tryz.tysOk Tryz.func23 rfl rfl ?_
      conv => whnf
      repeat' (first
        | (first | ((with_reducible refine Br.tt ?_); conv => whnf) | ((with_reducible refine Br.dt ?_ ?_); (focus (first | assumption | omega)); conv => whnf))
        | ((with_reducible refine Ar.i64 ?_ ?_); (focus omega); conv => whnf)
        | ((with_reducible refine Nc.go' (fun _ => ?_)); conv => whnf)
        | (refine Ld.at 0 rfl rfl ?_; conv => whnf))
      all_goals first | (refine Is.ent ?_ ?_; (focus (refine FEnt.ent ?_; (repeat (first | exact FEnt.rfl | refine FEnt.drop ?_)); done)); (exact Is.ttr (by first | assumption | omega))) | (exfalso; omega)
    · rw [decide_eq_false (fun hh : goesP ⟨a, true, c, x, n, b⟩ => h hh.2)]
      change Con Tryz.prog 23 [.agg #[i64W a, .bool true, u8W c, i64W x, i64W n, i64W b]] L _
      refine con_of Tryz.tysOk Tryz.func23 rfl rfl ?_
      conv => whnf
      repeat' (first
        | (first | ((with_reducible refine Br.tt ?_); conv => whnf) | ((with_reducible refine Br.ff ?_); conv => whnf))
        | ((with_reducible refine Ar.i64 ?_ ?_); (focus omega); conv => whnf)
        | ((with_reducible refine Nc.go' (fun _ => ?_)); conv => whnf)
        | (refine Ld.at 0 rfl rfl ?_; conv => whnf)
        | ((with_reducible refine Br.ds (fun _ => ?_) (fun _ => ?_) ) <;> (conv => whnf)))
      all_goals first | (refine Is.ent ?_ ?_; (focus (refine FEnt.ent ?_; (repeat (first | exact FEnt.rfl | refine FEnt.drop ?_)); done)); (first | exact Is.rfl | exact Is.ffr (by first | assumption | omega))) | (exfalso; omega)
theorem Tryz.target40 (a : Option Addr) (c : Nat) (l : List Pc) (e n : Int) (L : List HP) (hr : Rd pcE L a l) (hl : l.length ≤ 60000) (hc : ∀ p ∈ l, 0 ≤ p.c ∧ p.c ≤ 255) :
    Con Tryz.prog 9 [.slice a l.length c, .int .i64 e, .int .i64 n] L (Is (.bool (decide (tgt l e n))) L) := by
  obtain ⟨bo, hbo, hbi⟩ : ∃ bo : Bool, bo = decide (tgt l e n) ∧ (bo = true ↔ tgt l e n) := ⟨_, rfl, decide_eq_true_iff⟩
  rw [← hbo]
  clear hbo
  have b0 : ∃ b : Bool, (b = true ↔ n = e) := ⟨decide (n = e), decide_eq_true_iff⟩
  refine con_of Tryz.tysOk Tryz.func9 rfl rfl ?_
  conv => whnf
  repeat' skip
  conv => whnf
  refine Lp.by3 Tryz.tysOk [9, 7, 8] (fun (k : Nat) (u v : Bool) => [.int .i64 k, .bool u, .bool v]) (fun k u v => L) (fun k u v => k ≤ l.length ∧ (u = true ↔ (n = e ∨ ∃ p ∈ l.take k, p.a = n)) ∧ (v = true ↔ ∃ p ∈ l.take k, goesP p ∧ p.n = n)) (fun k u v => l.length - k) (0) (decide (n = e)) (false) (by kernel_rfl) (by (exact Ent.rfl)) (⟨by omega, by simp, by simp⟩) ?_
  rintro k u v ⟨g1, g2, g3⟩
  conv => whnf
  repeat (intro _; conv => whnf)
  by_cases hk : k < l.length
  · have hgo := fun L => Tryz.goes40 (l.getD k pcE.d) L (hc _ (getD_mem (d := pcE.d) hk))
    have hst := pc_take hk
    have s1 : ∀ u' : Bool, (u' = true ↔ u = true ∨ (l.getD k pcE.d).a = n) → (u' = true ↔ (n = e ∨ ∃ p ∈ l.take (k + 1), p.a = n)) := fun u' h => by
      rw [h, g2, hst]
      constructor
      · rintro ((h | ⟨p, hp, h⟩) | h)
        · exact .inl h
        · exact .inr ⟨p, by simp [hp], h⟩
        · exact .inr ⟨_, List.mem_append_right _ (List.mem_singleton.2 rfl), h⟩
      · rintro (h | ⟨p, hp, h⟩)
        · exact .inl (.inl h)
        · rcases List.mem_append.1 hp with hp | hp
          · exact .inl (.inr ⟨p, hp, h⟩)
          · rw [List.mem_singleton.1 hp] at h; exact .inr h
    have s2 : ∀ v' : Bool, (v' = true ↔ v = true ∨ (goesP (l.getD k pcE.d) ∧ (l.getD k pcE.d).n = n)) → (v' = true ↔ ∃ p ∈ l.take (k + 1), goesP p ∧ p.n = n) := fun v' h => by
      rw [h, g3, hst]
      constructor
      · rintro (⟨p, hp, h⟩ | h)
        · exact ⟨p, by simp [hp], h⟩
        · exact ⟨_, List.mem_append_right _ (List.mem_singleton.2 rfl), h⟩
      · rintro ⟨p, hp, h⟩
        rcases List.mem_append.1 hp with hp | hp
        · exact .inl ⟨p, hp, h⟩
        · rw [List.mem_singleton.1 hp] at h; exact .inr h
    clear hbi hst g2 g3
    have t1 : ∃ u' : Bool, (u' = true ↔ u = true ∨ (l.getD k pcE.d).a = n) ∧ (u = true → u' = true) ∧ (u = false → u' = decide ((l.getD k pcE.d).a = n)) := ⟨u || decide ((l.getD k pcE.d).a = n), by simp, fun h => by simp [h], fun h => by simp [h]⟩
    have t2 : ∃ v' : Bool, (v' = true ↔ v = true ∨ (goesP (l.getD k pcE.d) ∧ (l.getD k pcE.d).n = n)) ∧ (v = true → v' = true) ∧ (v = false → ¬ goesP (l.getD k pcE.d) → v' = false) ∧ (v = false → goesP (l.getD k pcE.d) → v' = decide ((l.getD k pcE.d).n = n)) :=
      ⟨v || decide (goesP (l.getD k pcE.d) ∧ (l.getD k pcE.d).n = n), by rw [Bool.or_eq_true, decide_eq_true_iff], fun h => by simp [h], fun h h2 => by rw [h, Bool.false_or]; exact decide_eq_false fun hh => h2 hh.1, fun h h2 => by rw [h, Bool.false_or]; exact decide_eq_decide.2 ⟨fun hh => hh.2, fun hh => ⟨h2, hh⟩⟩⟩
    obtain ⟨u', a1, a2, a3⟩ := t1
    obtain ⟨v', c1, c2, c3, c4⟩ := t2
    have s1 := s1 u' a1
    have s2 := s2 v' c1
    clear a1 c1
    cases u with
    | true =>
      have a2 := a2 rfl
      subst a2
      cases v with
      | true =>
        have c2 := c2 rfl
        subst c2
        clear a3 c3 c4
        conv => whnf
        repeat' (first
          | (first | ((with_reducible refine Br.tt ?_); conv => whnf) | ((with_reducible refine Br.dt ?_ ?_); (focus (first | assumption | omega)); conv => whnf))
          | ((with_reducible refine Ar.i64 ?_ ?_); (focus omega); conv => whnf))
        all_goals first | (exfalso; omega) | exact ⟨k + 1, true, true, by kernel_rfl, by (exact Ent.rfl), ⟨by omega, s1, s2⟩, by omega⟩
      | false =>
        by_cases hg : goesP (l.getD k pcE.d)
        · have c4 := c4 rfl hg
          subst c4
          have hgo := fun L => Con.dt hg (hgo L)
          clear hg a3 c2 c3
          conv => whnf
          repeat' (first
            | (first | ((with_reducible refine Br.tt ?_); conv => whnf) | ((with_reducible refine Br.ff ?_); conv => whnf) | ((with_reducible refine Br.dt ?_ ?_); (focus (first | assumption | omega)); conv => whnf))
            | ((with_reducible refine Ar.i64 ?_ ?_); (focus omega); conv => whnf)
            | ((with_reducible refine Ix.ad ?_ ?_ ?_); (focus (exact Rd.ad (by assumption))); (focus (omega)); conv => whnf)
            | ((with_reducible apply Ld.rdk2); (focus ((repeat (assumption)); done)); (focus rfl); (focus (omega)); (focus rfl); conv => whnf)
            | ((with_reducible apply LdN.rdk); (focus ((repeat (assumption)); done)); (focus rfl); (focus rfl); (focus (omega)); conv => whnf)
            | ((with_reducible refine (?_ : Cl _ 23 _ _ _ _)); (refine Cl.is (hgo _) ?_); conv => whnf))
          all_goals first | (exfalso; omega) | exact ⟨k + 1, true, decide ((l.getD k pcE.d).n = n), by kernel_rfl, by (exact Ent.rfl), ⟨by omega, s1, s2⟩, by omega⟩
        · have c3 := c3 rfl hg
          subst c3
          have hgo := fun L => Con.df hg (hgo L)
          clear hg a3 c2 c4
          conv => whnf
          repeat' (first
            | (first | ((with_reducible refine Br.tt ?_); conv => whnf) | ((with_reducible refine Br.ff ?_); conv => whnf) | ((with_reducible refine Br.dt ?_ ?_); (focus (first | assumption | omega)); conv => whnf))
            | ((with_reducible refine Ar.i64 ?_ ?_); (focus omega); conv => whnf)
            | ((with_reducible refine Ix.ad ?_ ?_ ?_); (focus (exact Rd.ad (by assumption))); (focus (omega)); conv => whnf)
            | ((with_reducible apply LdN.rdk); (focus ((repeat (assumption)); done)); (focus rfl); (focus rfl); (focus (omega)); conv => whnf)
            | ((with_reducible refine (?_ : Cl _ 23 _ _ _ _)); (refine Cl.is (hgo _) ?_); conv => whnf))
          all_goals first | (exfalso; omega) | exact ⟨k + 1, true, false, by kernel_rfl, by (exact Ent.rfl), ⟨by omega, s1, s2⟩, by omega⟩
    | false =>
      have a3 := a3 rfl
      subst a3
      cases v with
      | true =>
        have c2 := c2 rfl
        subst c2
        clear a2 c3 c4
        conv => whnf
        repeat' (first
          | (first | ((with_reducible refine Br.tt ?_); conv => whnf) | ((with_reducible refine Br.ff ?_); conv => whnf) | ((with_reducible refine Br.dt ?_ ?_); (focus (first | assumption | omega)); conv => whnf))
          | ((with_reducible refine Ar.i64 ?_ ?_); (focus omega); conv => whnf)
          | ((with_reducible refine Ix.ad ?_ ?_ ?_); (focus (exact Rd.ad (by assumption))); (focus (omega)); conv => whnf)
          | ((with_reducible apply Ld.rdk0); (focus ((repeat (assumption)); done)); (focus rfl); (focus (omega)); (focus rfl); conv => whnf))
        all_goals first | (exfalso; omega) | exact ⟨k + 1, decide ((l.getD k pcE.d).a = n), true, by kernel_rfl, by (exact Ent.rfl), ⟨by omega, s1, s2⟩, by omega⟩
      | false =>
        by_cases hg : goesP (l.getD k pcE.d)
        · have c4 := c4 rfl hg
          subst c4
          have hgo := fun L => Con.dt hg (hgo L)
          clear hg a2 c2 c3
          conv => whnf
          repeat' (first
            | (first | ((with_reducible refine Br.tt ?_); conv => whnf) | ((with_reducible refine Br.ff ?_); conv => whnf) | ((with_reducible refine Br.dt ?_ ?_); (focus (first | assumption | omega)); conv => whnf))
            | ((with_reducible refine Ar.i64 ?_ ?_); (focus omega); conv => whnf)
            | ((with_reducible refine Ix.ad ?_ ?_ ?_); (focus (exact Rd.ad (by assumption))); (focus (omega)); conv => whnf)
            | (first | ((with_reducible apply Ld.rdk0); (focus ((repeat (assumption)); done)); (focus rfl); (focus (omega)); (focus rfl); conv => whnf) | ((with_reducible apply Ld.rdk2); (focus ((repeat (assumption)); done)); (focus rfl); (focus (omega)); (focus rfl); conv => whnf))
            | ((with_reducible apply LdN.rdk); (focus ((repeat (assumption)); done)); (focus rfl); (focus rfl); (focus (omega)); conv => whnf)
            | ((with_reducible refine (?_ : Cl _ 23 _ _ _ _)); (refine Cl.is (hgo _) ?_); conv => whnf))
          all_goals first | (exfalso; omega) | exact ⟨k + 1, decide ((l.getD k pcE.d).a = n), decide ((l.getD k pcE.d).n = n), by kernel_rfl, by (exact Ent.rfl), ⟨by omega, s1, s2⟩, by omega⟩
        · have c3 := c3 rfl hg
          subst c3
          have hgo := fun L => Con.df hg (hgo L)
          clear hg a2 c2 c4
          conv => whnf
          repeat' (first
            | (first | ((with_reducible refine Br.ff ?_); conv => whnf) | ((with_reducible refine Br.dt ?_ ?_); (focus (first | assumption | omega)); conv => whnf))
            | ((with_reducible refine Ar.i64 ?_ ?_); (focus omega); conv => whnf)
            | ((with_reducible refine Ix.ad ?_ ?_ ?_); (focus (exact Rd.ad (by assumption))); (focus (omega)); conv => whnf)
            | ((with_reducible apply Ld.rdk0); (focus ((repeat (assumption)); done)); (focus rfl); (focus (omega)); (focus rfl); conv => whnf)
            | ((with_reducible apply LdN.rdk); (focus ((repeat (assumption)); done)); (focus rfl); (focus rfl); (focus (omega)); conv => whnf)
            | ((with_reducible refine (?_ : Cl _ 23 _ _ _ _)); (refine Cl.is (hgo _) ?_); conv => whnf))
          all_goals first | (exfalso; omega) | exact ⟨k + 1, decide ((l.getD k pcE.d).a = n), false, by kernel_rfl, by (exact Ent.rfl), ⟨by omega, s1, s2⟩, by omega⟩
  · rw [List.take_of_length_le (by omega)] at g2 g3
    have hE0 : bo = true ↔ (u = true ∧ v = true) := by
      rw [hbi, g2, g3]
      exact Iff.rfl
    have hE : bo = (bif u then v else false) := by
      clear g2 g3 hbi
      cases u <;> cases v <;> cases bo <;> simp at hE0 ⊢
    clear hE0
    clear g2 g3 hbi
    subst hE
    cases u with
    | true =>
      conv => whnf
      repeat' (first | ((with_reducible refine Br.tt ?_); conv => whnf) | ((with_reducible refine Br.df ?_ ?_); (focus (first | assumption | omega)); conv => whnf))
      all_goals first | (exfalso; omega) | (refine Is.ent ?_ ?_; (focus (exact Ent.rfl)); (exact Is.rfl))
    | false =>
      conv => whnf
      repeat' (first | ((with_reducible refine Br.ff ?_); conv => whnf) | ((with_reducible refine Br.df ?_ ?_); (focus (first | assumption | omega)); conv => whnf))
      all_goals first | (exfalso; omega) | (refine Is.ent ?_ ?_; (focus (exact Ent.rfl)); (exact Is.rfl))
theorem Tryz.digits40 (n : Nat) (hn : n ≤ 99999) : ∀ (L : List HP), Con Tryz.prog 44 [.int .i64 n] L (Is (.string (decB n)) L) := by
  induction n using Nat.strongRecOn with
  | _ n ih =>
    intro L
    by_cases h : n ≤ 9
    · have e : decB n = ⟨#[u8of (48 + (n : Int))]⟩ := by show bsL (Lib.decDigits n) = _; rw [dec_low h]
      rw [e]
      clear ih e
      refine con_of Tryz.tysOk Tryz.func44 rfl rfl ?_
      conv => whnf
      repeat' (first
        | ((with_reducible refine Br.dt ?_ ?_); (focus (first | assumption | omega)); conv => whnf)
        | (first | ((with_reducible refine Ar.u8b ?_); conv => whnf) | ((with_reducible refine Ar.i64 ?_ ?_); (focus omega); conv => whnf))
        | ((with_reducible refine Nc.go' (fun _ => ?_)); conv => whnf)
        | ((with_reducible refine (?_ : Sm _ (convert _ _ _) _ _)); ((apply (Sm.b2s Tryz.tysOk)); (rotate_left; (focus (exact Rd.ptc 0 rfl [_] rfl)); rotate_right; (focus rfl)); (focus rfl); (focus rfl); (focus rfl); (focus rfl); (focus rfl); (focus rfl); conv => whnf)))
      all_goals first | (exfalso; omega) | (refine Is.ent ?_ ?_; (focus (refine FEnt.ent ?_; (repeat (first | exact FEnt.rfl | refine FEnt.drop ?_)); done)); (exact Is.rfl))
    · have t1 : (n : Int).tmod 10 = ((n % 10 : Nat) : Int) := by rw [Int.tmod_eq_emod_of_nonneg (by omega)]; rfl
      have t2 : (n : Int).tdiv 10 = ((n / 10 : Nat) : Int) := by rw [Int.tdiv_eq_ediv_of_nonneg (by omega)]; rfl
      have hi := ih (n / 10) (by omega) (by omega)
      have hj := ih (n % 10) (by omega) (by omega)
      have e : decB n = decB (n / 10) ++ decB (n % 10) := str_ext (by
        rw [append_list]
        show Lib.decDigits n = Lib.decDigits (n / 10) ++ Lib.decDigits (n % 10)
        rw [dec_high h, dec_low (show n % 10 ≤ 9 by omega)])
      have z1 : (decB (n / 10)).size ≤ 5 := dec_len 4 _ (by omega)
      have z2 : (decB (n % 10)).size ≤ 5 := dec_len 4 _ (by omega)
      rw [e]
      clear ih e
      refine con_of Tryz.tysOk Tryz.func44 rfl rfl ?_
      conv => whnf
      repeat' (first
        | ((with_reducible refine Br.df ?_ ?_); (focus (first | assumption | omega)); conv => whnf)
        | ((with_reducible refine Ar.i64 ?_ ?_); (focus omega); conv => whnf)
        | ((with_reducible refine Nd.mk ?_ ?_); (focus (first | omega | rfl | assumption | (simp; done))); conv => whnf)
        | ((with_reducible refine (?_ : Cl _ 44 _ _ _ _)); (first | refine Cl.is (hi _) ?_ | refine Cl.is (hj _) ?_); conv => whnf))
      all_goals first | (exfalso; omega) | (refine Is.ent ?_ ?_; (focus (exact Ent.rfl)); (exact Is.rfl))
theorem Tryz.line40 (a : Option Addr) (c : Nat) (l : List Pc) (e : Nat) (p : Pc) (L : List HP) (hr : Rd pcE L a l) (hl : l.length ≤ 60000) (hc : ∀ q ∈ l, 0 ≤ q.c ∧ q.c ≤ 255) (hp : PcOk p) (hpc : 0 ≤ p.c ∧ p.c ≤ 255) :
    Con Tryz.prog 25 [.slice a l.length c, .int .i64 e, pcV p] L (Is (.string (bsL (pcT (tgt l e) p))) L) := by
  have hgo := fun L => Tryz.goes40 p L hpc
  have htg := fun n L h => Tryz.target40 a c l e n L h hl hc
  have hlen := pcT_len (T := tgt l e) hp
  clear hc
  obtain ⟨pa, i, co, x, n, bb⟩ := p
  dsimp only at hpc
  cases i with
  | false =>
    have hb := hp.byt rfl
    dsimp only at hb
    obtain ⟨B, rfl⟩ : ∃ B : Nat, bb = B := ⟨bb.toNat, by omega⟩
    have hd := fun L => Tryz.digits40 B (by omega) L
    have eS : bsL (pcT (tgt l e) ⟨pa, false, co, x, n, B⟩) = (⟨#[98, 121, 116, 101, 32]⟩ : ByteArray) ++ decB B := str_ext (by rw [append_list]; rfl)
    have z0 : (decB B).size ≤ 5 := dec_len 4 _ (by omega)
    have z1 : (⟨#[98, 121, 116, 101, 32]⟩ : ByteArray).size = 5 := rfl
    rw [eS]
    clear eS hgo htg hp hlen
    change Con Tryz.prog 25 [.slice a l.length c, .int .i64 e, .agg #[i64W pa, .bool false, u8W co, i64W x, i64W n, i64W B]] L _
    refine con_of Tryz.tysOk Tryz.func25 rfl rfl ?_
    conv => whnf
    repeat' (first
      | ((with_reducible refine Br.nf ?_); conv => whnf)
      | ((with_reducible refine Ar.i64 ?_ ?_); (focus omega); conv => whnf)
      | ((with_reducible refine Nd.mk ?_ ?_); (focus (first | omega | rfl | assumption | (simp; done))); conv => whnf)
      | ((with_reducible refine Nc.go' (fun _ => ?_)); conv => whnf)
      | (refine Ld.at 0 rfl rfl ?_; conv => whnf)
      | ((with_reducible refine Cl.is (hd _) ?_); conv => whnf))
    all_goals first | (exfalso; omega) | (refine Is.ent ?_ ?_; (focus (refine FEnt.ent ?_; (repeat (first | exact FEnt.rfl | refine FEnt.drop ?_)); done)); (exact Is.rfl))
  | true =>
    have hmy := hp.ins rfl
    dsimp only at hmy
    have hmn := may_nat hmy
    obtain ⟨m1, m2, m3, m4, m5, m6, m7, m8, m9⟩ := hmy
    obtain ⟨C, rfl⟩ : ∃ C : Nat, co = C := ⟨co.toNat, by omega⟩
    obtain ⟨X, rfl⟩ : ∃ X : Nat, x = X := ⟨x.toNat, by omega⟩
    obtain ⟨N, rfl⟩ : ∃ N : Nat, n = N := ⟨n.toNat, by omega⟩
    have hnm := fun L => Tryz.refCodeName C L (by omega)
    have hdx := fun L => Tryz.digits40 X (by omega) L
    have hdn := fun L => Tryz.digits40 N (by omega) L
    have z1 : (codeN C).size ≤ 6 := name_sz (c := (C : Int)) ⟨by omega, by omega⟩
    have zx : (decB X).size ≤ 5 := dec_len 4 _ (by omega)
    have zn : (decB N).size ≤ 5 := dec_len 4 _ (by omega)
    have zr : (⟨#[32, 114]⟩ : ByteArray).size = 2 := rfl
    have zs : (⟨#[32]⟩ : ByteArray).size = 1 := rfl
    have y1 : (codeN C ++ (⟨#[32, 114]⟩ : ByteArray)).size ≤ 8 := by rw [app_size]; omega
    have y2 : (codeN C ++ (⟨#[32, 114]⟩ : ByteArray) ++ decB X).size ≤ 13 := by rw [app_size]; omega
    have y3 : (codeN C ++ (⟨#[32, 114]⟩ : ByteArray) ++ decB X ++ (⟨#[32, 114]⟩ : ByteArray)).size ≤ 15 := by rw [app_size]; omega
    have y4 : (codeN C ++ (⟨#[32, 114]⟩ : ByteArray) ++ decB X ++ (⟨#[32]⟩ : ByteArray)).size ≤ 14 := by rw [app_size]; omega
    have y5 : (codeN C ++ (⟨#[32]⟩ : ByteArray)).size ≤ 7 := by rw [app_size]; omega
    have eP : ∀ last : ByteArray, bsL (joinW (insWs C X N last)) = (if C = 0 ∨ C = 15 then codeN C else if C = 11 then codeN C ++ (⟨#[32]⟩ : ByteArray) ++ last else if C ≤ 10 ∧ 2 ≤ C then codeN C ++ (⟨#[32, 114]⟩ : ByteArray) ++ decB X ++ (⟨#[32, 114]⟩ : ByteArray) ++ decB N else codeN C ++ (⟨#[32, 114]⟩ : ByteArray) ++ decB X ++ (⟨#[32]⟩ : ByteArray) ++ last) := fun last => by
      unfold insWs
      by_cases c0 : C = 0 ∨ C = 15
      · rw [if_pos c0, if_neg (by omega), if_neg (by omega), if_neg (by omega)]
        rfl
      · rw [if_neg c0]
        by_cases c1 : C = 11
        · rw [if_pos c1, if_neg (by omega), if_neg (by omega), if_pos (by omega)]
          refine str_ext ?_
          rw [append_list, append_list, bsL_list]
          show (codeN C).data.toList ++ 32 :: last.data.toList = _
          simp
        · rw [if_neg c1, if_pos (by omega)]
          by_cases c2 : C ≤ 10 ∧ 2 ≤ C
          · rw [if_pos c2, if_pos (by omega)]
            refine str_ext ?_
            rw [append_list, append_list, append_list, append_list, bsL_list]
            show (codeN C).data.toList ++ 32 :: ((114 :: Lib.decDigits X) ++ 32 :: (114 :: Lib.decDigits N)) = (codeN C).data.toList ++ [32, 114] ++ Lib.decDigits X ++ [32, 114] ++ Lib.decDigits N
            simp
          · rw [if_neg c2, if_neg (by omega), if_pos (by omega)]
            refine str_ext ?_
            rw [append_list, append_list, append_list, append_list, bsL_list]
            show (codeN C).data.toList ++ 32 :: ((114 :: Lib.decDigits X) ++ 32 :: last.data.toList) = (codeN C).data.toList ++ [32, 114] ++ Lib.decDigits X ++ [32] ++ last.data.toList
            simp
    have eT : pcT (tgt l e) ⟨pa, true, C, X, N, bb⟩ = joinW (insWs C X N (if goesP ⟨pa, true, C, X, N, bb⟩ ∧ tgt l e N then nmS N else decB N)) := by
      unfold pcT
      rw [if_pos rfl]
      rfl
    rw [eT, eP]
    clear eT eP hp hlen hmn
    change Con Tryz.prog 25 [.slice a l.length c, .int .i64 e, .agg #[i64W pa, .bool true, u8W C, i64W X, i64W N, i64W bb]] L _
    by_cases c0 : C = 0 ∨ C = 15
    · rw [if_pos c0]
      clear hgo htg hdx hdn m7 m8 m9
      rcases c0 with c0 | c0
      · refine con_of Tryz.tysOk Tryz.func25 rfl rfl ?_
        conv => whnf
        repeat' (first
          | (first | ((with_reducible refine Br.tt ?_); conv => whnf) | ((with_reducible refine Br.nt ?_); conv => whnf) | ((with_reducible refine Br.dt ?_ ?_); (focus (first | assumption | omega)); conv => whnf))
          | ((with_reducible refine Ar.i64 ?_ ?_); (focus omega); conv => whnf)
          | ((with_reducible refine Nc.go' (fun _ => ?_)); conv => whnf)
          | (refine Ld.at 0 rfl rfl ?_; conv => whnf)
          | ((with_reducible refine Cl.is (hnm _) ?_); conv => whnf))
        all_goals first | (exfalso; omega) | (refine Is.ent ?_ ?_; (focus (refine FEnt.ent ?_; (repeat (first | exact FEnt.rfl | refine FEnt.drop ?_)); done)); (exact Is.rfl))
      · refine con_of Tryz.tysOk Tryz.func25 rfl rfl ?_
        conv => whnf
        repeat' (first
          | (first | ((with_reducible refine Br.ff ?_); conv => whnf) | ((with_reducible refine Br.nt ?_); conv => whnf) | ((with_reducible refine Br.dt ?_ ?_); (focus (first | assumption | omega)); conv => whnf) | ((with_reducible refine Br.df ?_ ?_); (focus (first | assumption | omega)); conv => whnf))
          | ((with_reducible refine Ar.i64 ?_ ?_); (focus omega); conv => whnf)
          | ((with_reducible refine Nc.go' (fun _ => ?_)); conv => whnf)
          | (refine Ld.at 0 rfl rfl ?_; conv => whnf)
          | ((with_reducible refine Cl.is (hnm _) ?_); conv => whnf))
        all_goals first | (exfalso; omega) | (refine Is.ent ?_ ?_; (focus (refine FEnt.ent ?_; (repeat (first | exact FEnt.rfl | refine FEnt.drop ?_)); done)); (exact Is.rfl))
    · rw [if_neg c0]
      have c0a : ¬ C = 0 := fun h => c0 (.inl h)
      have c0b : ¬ C = 15 := fun h => c0 (.inr h)
      clear m7 m8 m9 c0
      by_cases hg : goesP ⟨pa, true, C, X, N, bb⟩
      · have hgo := fun L => Con.dt hg (hgo L)
        have hg2 := hg.2
        dsimp only at hg2
        by_cases ht : tgt l e N
        · have htg := fun L h => Con.dt ht (htg N L h)
          have hgt : goesP ⟨pa, true, C, X, N, bb⟩ ∧ tgt l e N := ⟨hg, ht⟩
          rw [if_pos hgt, nmS_eq (by omega)]
          have hnn := fun L => Tryz.refName N (by omega) L
          have z9 := nm_len4 (n := N) (by omega)
          have z8 : (bsL (nm N)).size ≤ 4 := by rw [bsL_size]; exact z9
          change ∀ L, Con Tryz.prog 24 [.int .i64 N] L (Is (.string (bsL (nm N))) L) at hnn
          clear hg ht hgt z9 hdn
          generalize bsL (nm N) = V at *
          by_cases c1 : C = 11
          · rw [if_pos c1]
            refine con_of Tryz.tysOk Tryz.func25 rfl rfl ?_
            conv => whnf
            repeat' (first
              | (first | ((with_reducible refine Br.tt ?_); conv => whnf) | ((with_reducible refine Br.ff ?_); conv => whnf) | ((with_reducible refine Br.nt ?_); conv => whnf) | ((with_reducible refine Br.dt ?_ ?_); (focus (first | assumption | omega)); conv => whnf) | ((with_reducible refine Br.df ?_ ?_); (focus (first | assumption | omega)); conv => whnf) | ((with_reducible refine Br.ndf ?_ ?_); (focus (first | assumption | omega)); conv => whnf))
              | ((with_reducible refine Ar.i64 ?_ ?_); (focus omega); conv => whnf)
              | ((with_reducible refine Nd.mk ?_ ?_); (focus (first | omega | rfl | assumption | (simp; done))); conv => whnf)
              | ((with_reducible refine Nc.go' (fun _ => ?_)); conv => whnf)
              | (refine Ld.at 0 rfl rfl ?_; conv => whnf)
              | (refine LdN.at 0 rfl (by first | exact Nat.le_of_ble_eq_true rfl | (simp; done)) ?_; conv => whnf)
              | (first | ((with_reducible refine Cl.is (hnm _) ?_); conv => whnf) | ((with_reducible refine (?_ : Cl _ 23 _ _ _ _)); (refine Cl.is (hgo _) ?_); conv => whnf) | ((with_reducible refine Cl.is (htg _ (by ((repeat (first | assumption | apply Rd.cons)); done))) ?_); conv => whnf) | ((with_reducible refine Cl.is (hnn _) ?_); conv => whnf)))
            all_goals first | (exfalso; omega) | (refine Is.ent ?_ ?_; (focus (refine FEnt.ent ?_; (repeat (first | exact FEnt.rfl | refine FEnt.drop ?_)); done)); (exact Is.rfl))
          · rw [if_neg c1, if_neg (show ¬ (C ≤ 10 ∧ 2 ≤ C) by omega)]
            refine con_of Tryz.tysOk Tryz.func25 rfl rfl ?_
            conv => whnf
            repeat' (first
              | (first | ((with_reducible refine Br.tt ?_); conv => whnf) | ((with_reducible refine Br.ff ?_); conv => whnf) | ((with_reducible refine Br.nt ?_); conv => whnf) | ((with_reducible refine Br.dt ?_ ?_); (focus (first | assumption | omega)); conv => whnf) | ((with_reducible refine Br.df ?_ ?_); (focus (first | assumption | omega)); conv => whnf) | ((with_reducible refine Br.ndt ?_ ?_); (focus (first | assumption | omega)); conv => whnf))
              | ((with_reducible refine Ar.i64 ?_ ?_); (focus omega); conv => whnf)
              | ((with_reducible refine Nd.mk ?_ ?_); (focus (first | omega | rfl | assumption | (simp; done))); conv => whnf)
              | ((with_reducible refine Nc.go' (fun _ => ?_)); conv => whnf)
              | (refine Ld.at 0 rfl rfl ?_; conv => whnf)
              | (refine LdN.at 0 rfl (by first | exact Nat.le_of_ble_eq_true rfl | (simp; done)) ?_; conv => whnf)
              | (first | ((with_reducible refine Cl.is (hnm _) ?_); conv => whnf) | ((with_reducible refine Cl.is (hdx _) ?_); conv => whnf) | ((with_reducible refine (?_ : Cl _ 23 _ _ _ _)); (refine Cl.is (hgo _) ?_); conv => whnf) | ((with_reducible refine Cl.is (htg _ (by ((repeat (first | assumption | apply Rd.cons)); done))) ?_); conv => whnf) | ((with_reducible refine Cl.is (hnn _) ?_); conv => whnf)))
            all_goals first | (exfalso; omega) | (refine Is.ent ?_ ?_; (focus (refine FEnt.ent ?_; (repeat (first | exact FEnt.rfl | refine FEnt.drop ?_)); done)); (exact Is.rfl))
        · have htg := fun L h => Con.df ht (htg N L h)
          have hgt : ¬ (goesP ⟨pa, true, C, X, N, bb⟩ ∧ tgt l e N) := fun h => ht h.2
          rw [if_neg hgt]
          clear hg ht hgt
          by_cases c1 : C = 11
          · rw [if_pos c1]
            clear hdx
            refine con_of Tryz.tysOk Tryz.func25 rfl rfl ?_
            conv => whnf
            repeat' (first
              | (first | ((with_reducible refine Br.tt ?_); conv => whnf) | ((with_reducible refine Br.ff ?_); conv => whnf) | ((with_reducible refine Br.nt ?_); conv => whnf) | ((with_reducible refine Br.dt ?_ ?_); (focus (first | assumption | omega)); conv => whnf) | ((with_reducible refine Br.df ?_ ?_); (focus (first | assumption | omega)); conv => whnf) | ((with_reducible refine Br.ndf ?_ ?_); (focus (first | assumption | omega)); conv => whnf))
              | ((with_reducible refine Ar.i64 ?_ ?_); (focus omega); conv => whnf)
              | ((with_reducible refine Nd.mk ?_ ?_); (focus (first | omega | rfl | assumption | (simp; done))); conv => whnf)
              | ((with_reducible refine Nc.go' (fun _ => ?_)); conv => whnf)
              | (refine Ld.at 0 rfl rfl ?_; conv => whnf)
              | (refine LdN.at 0 rfl (by first | exact Nat.le_of_ble_eq_true rfl | (simp; done)) ?_; conv => whnf)
              | (first | ((with_reducible refine Cl.is (hnm _) ?_); conv => whnf) | ((with_reducible refine Cl.is (hdn _) ?_); conv => whnf) | ((with_reducible refine (?_ : Cl _ 23 _ _ _ _)); (refine Cl.is (hgo _) ?_); conv => whnf) | ((with_reducible refine Cl.is (htg _ (by ((repeat (first | assumption | apply Rd.cons)); done))) ?_); conv => whnf)))
            all_goals first | (exfalso; omega) | (refine Is.ent ?_ ?_; (focus (refine FEnt.ent ?_; (repeat (first | exact FEnt.rfl | refine FEnt.drop ?_)); done)); (exact Is.rfl))
          · rw [if_neg c1, if_neg (show ¬ (C ≤ 10 ∧ 2 ≤ C) by omega)]
            refine con_of Tryz.tysOk Tryz.func25 rfl rfl ?_
            conv => whnf
            repeat' (first
              | (first | ((with_reducible refine Br.tt ?_); conv => whnf) | ((with_reducible refine Br.ff ?_); conv => whnf) | ((with_reducible refine Br.nt ?_); conv => whnf) | ((with_reducible refine Br.dt ?_ ?_); (focus (first | assumption | omega)); conv => whnf) | ((with_reducible refine Br.df ?_ ?_); (focus (first | assumption | omega)); conv => whnf) | ((with_reducible refine Br.ndt ?_ ?_); (focus (first | assumption | omega)); conv => whnf))
              | ((with_reducible refine Ar.i64 ?_ ?_); (focus omega); conv => whnf)
              | ((with_reducible refine Nd.mk ?_ ?_); (focus (first | omega | rfl | assumption | (simp; done))); conv => whnf)
              | ((with_reducible refine Nc.go' (fun _ => ?_)); conv => whnf)
              | (refine Ld.at 0 rfl rfl ?_; conv => whnf)
              | (refine LdN.at 0 rfl (by first | exact Nat.le_of_ble_eq_true rfl | (simp; done)) ?_; conv => whnf)
              | (first | ((with_reducible refine Cl.is (hnm _) ?_); conv => whnf) | ((with_reducible refine (?_ : Cl _ 44 _ _ _ _)); (first | refine Cl.is (hdx _) ?_ | refine Cl.is (hdn _) ?_); conv => whnf) | ((with_reducible refine (?_ : Cl _ 23 _ _ _ _)); (refine Cl.is (hgo _) ?_); conv => whnf) | ((with_reducible refine Cl.is (htg _ (by ((repeat (first | assumption | apply Rd.cons)); done))) ?_); conv => whnf)))
            all_goals first | (exfalso; omega) | (refine Is.ent ?_ ?_; (focus (refine FEnt.ent ?_; (repeat (first | exact FEnt.rfl | refine FEnt.drop ?_)); done)); (exact Is.rfl))
      · have hgo := fun L => Con.df hg (hgo L)
        have hg2 : ¬ (11 ≤ (C : Int) ∧ (C : Int) ≤ 13) := fun h => hg ⟨rfl, h⟩
        have hgt : ¬ (goesP ⟨pa, true, C, X, N, bb⟩ ∧ tgt l e N) := fun h => hg h.1
        rw [if_neg hgt, if_neg (show ¬ C = 11 by omega)]
        clear hg hgt htg
        by_cases c2 : C ≤ 10 ∧ 2 ≤ C
        · rw [if_pos c2]
          obtain ⟨c2, c3⟩ := c2
          clear hg2 hgo
          refine con_of Tryz.tysOk Tryz.func25 rfl rfl ?_
          conv => whnf
          repeat' (first
            | (first | ((with_reducible refine Br.tt ?_); conv => whnf) | ((with_reducible refine Br.ff ?_); conv => whnf) | ((with_reducible refine Br.nt ?_); conv => whnf) | ((with_reducible refine Br.dt ?_ ?_); (focus (first | assumption | omega)); conv => whnf) | ((with_reducible refine Br.df ?_ ?_); (focus (first | assumption | omega)); conv => whnf) | ((with_reducible refine Br.ndt ?_ ?_); (focus (first | assumption | omega)); conv => whnf))
            | ((with_reducible refine Ar.i64 ?_ ?_); (focus omega); conv => whnf)
            | ((with_reducible refine Nd.mk ?_ ?_); (focus (first | omega | rfl | assumption | (simp; done))); conv => whnf)
            | ((with_reducible refine Nc.go' (fun _ => ?_)); conv => whnf)
            | (refine Ld.at 0 rfl rfl ?_; conv => whnf)
            | (first | ((with_reducible refine Cl.is (hnm _) ?_); conv => whnf) | ((with_reducible refine (?_ : Cl _ 44 _ _ _ _)); (first | refine Cl.is (hdx _) ?_ | refine Cl.is (hdn _) ?_); conv => whnf)))
          all_goals first | (exfalso; omega) | (refine Is.ent ?_ ?_; (focus (refine FEnt.ent ?_; (repeat (first | exact FEnt.rfl | refine FEnt.drop ?_)); done)); (exact Is.rfl))
        · rw [if_neg c2]
          have c3 : C = 1 ∨ C = 14 := by omega
          clear hg2 c2
          refine con_of Tryz.tysOk Tryz.func25 rfl rfl ?_
          conv => whnf
          repeat' (first
            | (first | ((with_reducible refine Br.tt ?_); conv => whnf) | ((with_reducible refine Br.ff ?_); conv => whnf) | ((with_reducible refine Br.nt ?_); conv => whnf) | ((with_reducible refine Br.df ?_ ?_); (focus (first | assumption | omega)); conv => whnf) | ((with_reducible refine Br.ndt ?_ ?_); (focus (first | assumption | omega)); conv => whnf))
            | ((with_reducible refine Ar.i64 ?_ ?_); (focus omega); conv => whnf)
            | ((with_reducible refine Nd.mk ?_ ?_); (focus (first | omega | rfl | assumption | (simp; done))); conv => whnf)
            | ((with_reducible refine Nc.go' (fun _ => ?_)); conv => whnf)
            | (refine Ld.at 0 rfl rfl ?_; conv => whnf)
            | (refine LdN.at 0 rfl (by first | exact Nat.le_of_ble_eq_true rfl | (simp; done)) ?_; conv => whnf)
            | (first | ((with_reducible refine Cl.is (hnm _) ?_); conv => whnf) | ((with_reducible refine (?_ : Cl _ 44 _ _ _ _)); (first | refine Cl.is (hdx _) ?_ | refine Cl.is (hdn _) ?_); conv => whnf) | ((with_reducible refine (?_ : Cl _ 23 _ _ _ _)); (refine Cl.is (hgo _) ?_); conv => whnf))
            | ((with_reducible refine Br.ds (fun _ => ?_) (fun _ => ?_) ) <;> (conv => whnf)))
          all_goals first | (exfalso; omega) | (refine Is.ent ?_ ?_; (focus (refine FEnt.ent ?_; (repeat (first | exact FEnt.rfl | refine FEnt.drop ?_)); done)); (exact Is.rfl))
end Go.Proofs
