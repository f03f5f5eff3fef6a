/- A program's listing: contracts. -/
import Derived.Test.YtloaknocdnpedaaGreatDoorDisP
import Derived.Test.YtloaknocdnpedaaGreatDoorAsmV
import Derived.Test.YtloaknocdnpedaaGreatDoorEngMap
set_option linter.all false
namespace Go.Eng
open Go
variable {P : Program}
/-- a map's entry, laid -/
theorem Raw.ins' {o : Oper} {l : Env} {L : List HP} {K : Value → List HP → Prop} {X : List PanicEntry → List HP → Prop} {t : TypeId} {m k x : Operand} (ho : o.op = .insert t m k x)
    (h : evK l m fun vm => evK l k fun vk => evK l x fun vx => Sm P (do Instr.mapUpdate t vm vk vx; pure undef) L K) : Raw P o l L K X := by
  simp only [evK_eq] at h
  exact ⟨step_semu (fun w => by simp only [execOp, ho, Sem.run_bind]; rfl) h⟩
end Go.Eng
namespace Go.Proofs
open Go.Eng Go.RowKit Go.MapKept
open Classical
set_option linter.unusedVariables false
set_option maxRecDepth 100000
set_option maxHeartbeats 4000000
theorem Tryz.disGoes (p : Pc) (L : List HP) : Con Tryz.prog 29 [pcV p] L (Is (.bool (decide (goesP p))) L) := by
  obtain ⟨a, i, c, x, n, b⟩ := p
  cases i with
  | false =>
    rw [decide_eq_false (fun h : goesP ⟨a, false, c, x, n, b⟩ => absurd h.1 (by show ¬ false = true; decide))]
    refine con_of Tryz.tysOk Tryz.func29 rfl rfl ?_
    conv => whnf
    repeat' (first
      | ((with_reducible refine Br.ff ?_); conv => whnf)
      | ((with_reducible refine Nc.go' (fun _ => ?_)); conv => whnf)
      | (refine Ld.at 0 rfl rfl ?_; conv => whnf))
    all_goals first | (refine Is.ent ?_ ?_; (focus (refine FEnt.ent ?_; (repeat (first | exact FEnt.rfl | refine FEnt.drop ?_)); done)); (exact Is.rfl)) | (exfalso; omega)
  | true =>
    by_cases h : 11 ≤ c ∧ c ≤ 13
    · rw [decide_eq_true (show goesP ⟨a, true, c, x, n, b⟩ from ⟨rfl, h⟩)]
      have h3 : c = 11 ∨ c = 12 ∨ c = 13 := by omega
      clear h
      rcases h3 with rfl | rfl | rfl
      · refine con_of Tryz.tysOk Tryz.func29 rfl rfl ?_
        conv => whnf
        repeat' (first
          | (first | ((with_reducible refine Br.tt ?_); conv => whnf) | ((with_reducible refine Br.yes ?_ ?_); (focus (first | (simp; done) | (simp; omega))); conv => whnf))
          | ((with_reducible refine Nc.go' (fun _ => ?_)); conv => whnf)
          | (refine Ld.at 0 rfl rfl ?_; conv => whnf))
        all_goals first | (refine Is.ent ?_ ?_; (focus (refine FEnt.ent ?_; (repeat (first | exact FEnt.rfl | refine FEnt.drop ?_)); done)); (exact Is.rfl)) | (exfalso; omega)
      · refine con_of Tryz.tysOk Tryz.func29 rfl rfl ?_
        conv => whnf
        repeat' (first
          | (first | ((with_reducible refine Br.tt ?_); conv => whnf) | ((with_reducible refine Br.ff ?_); conv => whnf) | ((with_reducible refine Br.yes ?_ ?_); (focus (first | (simp; done) | (simp; omega))); conv => whnf) | ((with_reducible refine Br.no ?_ ?_); (focus (first | (simp; done) | (simp; omega))); conv => whnf))
          | ((with_reducible refine Nc.go' (fun _ => ?_)); conv => whnf)
          | (refine Ld.at 0 rfl rfl ?_; conv => whnf))
        all_goals first | (refine Is.ent ?_ ?_; (focus (refine FEnt.ent ?_; (repeat (first | exact FEnt.rfl | refine FEnt.drop ?_)); done)); (exact Is.rfl)) | (exfalso; omega)
      · refine con_of Tryz.tysOk Tryz.func29 rfl rfl ?_
        conv => whnf
        repeat' (first
          | (first | ((with_reducible refine Br.tt ?_); conv => whnf) | ((with_reducible refine Br.ff ?_); conv => whnf) | ((with_reducible refine Br.no ?_ ?_); (focus (first | (simp; done) | (simp; omega))); conv => whnf))
          | ((with_reducible refine Nc.go' (fun _ => ?_)); conv => whnf)
          | (refine Ld.at 0 rfl rfl ?_; conv => whnf))
        all_goals first | (refine Is.ent ?_ ?_; (focus (refine FEnt.ent ?_; (repeat (first | exact FEnt.rfl | refine FEnt.drop ?_)); done)); (exact Is.rfl)) | (exfalso; omega)
    · rw [decide_eq_false (fun hh : goesP ⟨a, true, c, x, n, b⟩ => h hh.2)]
      have h11 : ¬ c = 11 := by omega
      have h12 : ¬ c = 12 := by omega
      have h13 : ¬ c = 13 := by omega
      clear h
      refine con_of Tryz.tysOk Tryz.func29 rfl rfl ?_
      conv => whnf
      repeat' (first
        | (first | ((with_reducible refine Br.tt ?_); conv => whnf) | ((with_reducible refine Br.ff ?_); conv => whnf) | ((with_reducible refine Br.df ?_ ?_); (focus (first | assumption | omega)); conv => whnf))
        | ((with_reducible refine Nc.go' (fun _ => ?_)); conv => whnf)
        | (refine Ld.at 0 rfl rfl ?_; conv => whnf))
      all_goals first | (refine Is.ent ?_ ?_; (focus (refine FEnt.ent ?_; (repeat (first | exact FEnt.rfl | refine FEnt.drop ?_)); done)); (exact Is.ffr (by first | assumption | omega))) | (exfalso; omega)
/-! the targets: plain -/
def tbV (m : List (Int × Int)) : List (Value × Value) := m.map fun p => (.int .i64 p.1, .int .i64 p.2)
theorem tb_some {m : List (Int × Int)} {n : Int} (h : n ∈ m.map (·.1)) : ∃ (j : Nat) (v : Int), m[j]? = some (n, v) ∧ (tbV m)[j]? = some (.int .i64 n, .int .i64 v) := by
  obtain ⟨q, hq, rfl⟩ := List.mem_map.1 h
  obtain ⟨j, hj⟩ := List.getElem?_of_mem hq
  exact ⟨j, q.2, hj, by rw [tbV, List.getElem?_map, hj]; rfl⟩
theorem tb_none {m : List (Int × Int)} {n : Int} (h : n ∉ m.map (·.1)) : ∀ p ∈ tbV m, p.1 ≠ .int .i64 n := fun p hp => by
  obtain ⟨q, hq, rfl⟩ := List.mem_map.1 hp
  intro hc
  have : q.1 = n := (Value.int.inj hc).2
  exact h (List.mem_map.2 ⟨q, hq, this⟩)
theorem tb_set {m : List (Int × Int)} {j : Nat} {n v : Int} : (tbV m).set j (.int .i64 n, .int .i64 v) = tbV (m.set j (n, v)) := by
  unfold tbV
  rw [List.map_set]
theorem tb_add {m : List (Int × Int)} {n v : Int} : tbV m ++ [(.int .i64 n, .int .i64 v)] = tbV (m ++ [(n, v)]) := by
  unfold tbV
  rw [List.map_append]
  rfl
theorem keys_set {m : List (Int × Int)} {j : Nat} {n v w : Int} (h : m[j]? = some (n, v)) : (m.set j (n, w)).map (·.1) = m.map (·.1) := by
  rw [List.map_set]
  refine List.ext_getElem? fun i => ?_
  rw [List.getElem?_set]
  split
  · rename_i e
    subst e
    rw [List.getElem?_map, h]
    split
    · rfl
    · rename_i hc
      exact absurd (by rw [List.length_map]; exact (List.getElem?_eq_some_iff.1 h).1) hc
  · rfl
abbrev bgP (l : List Pc) (e : Int) (n : Int) : Prop := n = e ∨ ∃ p ∈ l, p.a = n
noncomputable def tkF (B : Int → Prop) : List Int → List Pc → List Int
  | ks, [] => ks
  | ks, p :: l => tkF B (if goesP p ∧ B p.n then (if p.n ∈ ks then ks else ks ++ [p.n]) else ks) l
theorem tk_mem (B : Int → Prop) (n : Int) : ∀ (l : List Pc) (ks : List Int), n ∈ tkF B ks l ↔ n ∈ ks ∨ ∃ p ∈ l, (goesP p ∧ B p.n) ∧ p.n = n
  | [], ks => by simp [tkF]
  | p :: l, ks => by
    rw [tkF, tk_mem B n l]
    by_cases h : goesP p ∧ B p.n
    · rw [if_pos h]
      by_cases hm : p.n ∈ ks
      · rw [if_pos hm]
        constructor
        · rintro (h1 | ⟨q, hq, h2⟩)
          · exact .inl h1
          · exact .inr ⟨q, by simp [hq], h2⟩
        · rintro (h1 | ⟨q, hq, h2⟩)
          · exact .inl h1
          · rcases List.mem_cons.1 hq with rfl | hq
            · rw [h2.2] at hm; exact .inl hm
            · exact .inr ⟨q, hq, h2⟩
      · rw [if_neg hm]
        constructor
        · rintro (h1 | ⟨q, hq, h2⟩)
          · rcases List.mem_append.1 h1 with h1 | h1
            · exact .inl h1
            · exact .inr ⟨p, by simp, h, (List.mem_singleton.1 h1).symm⟩
          · exact .inr ⟨q, by simp [hq], h2⟩
        · rintro (h1 | ⟨q, hq, h2⟩)
          · exact .inl (by simp [h1])
          · rcases List.mem_cons.1 hq with rfl | hq
            · exact .inl (by simp [h2.2])
            · exact .inr ⟨q, hq, h2⟩
    · rw [if_neg h]
      constructor
      · rintro (h1 | ⟨q, hq, h2⟩)
        · exact .inl h1
        · exact .inr ⟨q, by simp [hq], h2⟩
      · rintro (h1 | ⟨q, hq, h2⟩)
        · exact .inl h1
        · rcases List.mem_cons.1 hq with rfl | hq
          · exact absurd h2.1 h
          · exact .inr ⟨q, hq, h2⟩
theorem tk_tgt (l : List Pc) (e n : Int) : n ∈ tkF (bgP l e) [] l ↔ tgt l e n := by
  rw [tk_mem]
  unfold tgt
  constructor
  · rintro (h | ⟨p, hp, ⟨h1, h2⟩, rfl⟩)
    · exact absurd h (by simp)
    · exact ⟨h2, p, hp, h1, rfl⟩
  · rintro ⟨h1, p, hp, h2, rfl⟩
    exact .inr ⟨p, hp, ⟨h2, h1⟩, rfl⟩
theorem chn_a {e : Nat} : ∀ {l : List Pc} {k : Nat}, chn e k l → (∀ p ∈ l, (k : Int) ≤ p.a ∧ p.a < e) ∧ l.Pairwise fun p q => p.a < q.a
  | [], k, h => ⟨fun p hp => absurd hp (by simp), List.Pairwise.nil⟩
  | p :: l, k, h => by
    obtain ⟨h1, h2, h3⟩ := h
    obtain ⟨i1, i2⟩ := chn_a h3
    have hz := pcZ'_pos p
    have hle := chn_le h3
    refine ⟨fun q hq => ?_, List.pairwise_cons.2 ⟨fun q hq => ?_, i2⟩⟩
    · rcases List.mem_cons.1 hq with rfl | hq
      · omega
      · have := i1 q hq; omega
    · have := i1 q hq; omega
theorem chn_ok {e : Nat} : ∀ {l : List Pc} {k : Nat}, chn e k l → ∀ q ∈ l, PcOk q
  | [], k, h, q, hq => absurd hq (by simp)
  | p :: l, k, h, q, hq => by
    rcases List.mem_cons.1 hq with rfl | hq
    · exact h.2.1
    · exact chn_ok h.2.2 q hq
abbrev bgM (l : List Pc) (e : Int) : List (Int × Int) := (e, 1) :: l.map fun p => (p.a, 1)
theorem bgM_keys (l : List Pc) (e n : Int) : n ∈ (bgM l e).map (·.1) ↔ bgP l e n := by
  rw [List.map_cons, List.map_map, List.mem_cons, List.mem_map]
  exact Iff.rfl
theorem bgM_one {l : List Pc} {e : Int} {j : Nat} {n v : Int} (h : (bgM l e)[j]? = some (n, v)) : v = 1 := by
  have hm := List.mem_of_getElem? h
  rcases List.mem_cons.1 hm with h | h
  · exact (Prod.mk.inj h).2
  · obtain ⟨q, _, hq⟩ := List.mem_map.1 h
    exact (Prod.mk.inj hq).2.symm
theorem pc_drop {l : List Pc} {k : Nat} (hk : k < l.length) : l.drop k = l.getD k pcE.d :: l.drop (k + 1) := by
  rw [List.drop_eq_getElem_cons hk]
  simp [List.getD, hk]
theorem pc_take {l : List Pc} {k : Nat} (hk : k < l.length) : l.take (k + 1) = l.take k ++ [l.getD k pcE.d] := by
  rw [List.take_add_one, List.getElem?_eq_getElem hk]
  simp [List.getD, hk]
/-! the walk -/
theorem Tryz.disTargetsG (a : Option Addr) (c : Nat) (l : List Pc) (e : Nat) (L : List HP) (hr : Rd pcE L a l) (hl : l.length ≤ 60000) (he : e ≤ 60000) (hc : chn e 0 l) :
    Con Tryz.prog 13 [.slice a l.length c, .int .i64 e] L (Exs (fun y : Nat × List (Int × Int) => .map (some y.1)) (fun y => mapH y.1 (.int .i64) (tbV y.2) :: L) (fun y => y.2.map (·.1) = tkF (bgP l e) [] l ∧ ∀ q ∈ y.2, 1 ≤ q.2)) := by
  obtain ⟨ca, cp⟩ := chn_a hc
  generalize hK : tkF (bgP l e) [] l = K
  refine con_of Tryz.tysOk Tryz.func13 rfl rfl ?_
  conv => whnf
  repeat' (first
    | ((with_reducible refine Nw.map (.int .i64) (fun _ => ?_)); conv => whnf)
    | ((refine Raw.ins' rfl ?_); conv => whnf)
    | ((refine Sm.putNew Tryz.tysOk 0 rfl rfl rfl rfl rfl (by first | exact rfl | exact trivial) (by simp) ?_); conv => whnf))
  rename_i m
  conv => whnf
  refine Lp.by2 Tryz.tysOk [16] (fun (k : Nat) (es : List (Value × Value)) => [.int .i64 k]) (fun k es => mapH m (.int .i64) es :: L) (fun k es => k ≤ l.length ∧ es = tbV (bgM (l.take k) e)) (fun k es => l.length - k) (0) (tbV [((e : Int), 1)]) (by kernel_rfl) (by (exact Ent.rfl)) (⟨by omega, rfl⟩) ?_
  rintro k es ⟨g1, g2⟩
  conv => whnf
  repeat (intro _; conv => whnf)
  by_cases hk : k < l.length
  · have hno : (l.getD k pcE.d).a ∉ (bgM (l.take k) e).map (·.1) := fun hh => by
      rw [bgM_keys] at hh
      have h1 := ca _ (getD_mem (d := pcE.d) hk)
      rcases hh with hh | ⟨q, hq, hqa⟩
      · omega
      · have h2 : l = l.take k ++ l.getD k pcE.d :: l.drop (k + 1) := by rw [← pc_drop hk, List.take_append_drop]
        rw [h2] at cp
        have := (List.pairwise_append.1 cp).2.2 q hq (l.getD k pcE.d) (by simp)
        omega
    have hno2 := tb_none hno
    rw [← g2] at hno2
    have hst : es ++ [(.int .i64 (l.getD k pcE.d).a, .int .i64 1)] = tbV (bgM (l.take (k + 1)) e) := by
      rw [g2, tb_add, pc_take hk]
      unfold bgM
      rw [List.map_append]
      rfl
    clear hno g2 ca cp hK hc
    conv => whnf
    repeat' (first
      | ((with_reducible refine Br.dt ?_ ?_); (focus (first | assumption | omega)); conv => whnf)
      | ((with_reducible refine Ar.i64 ?_ ?_); (focus omega); conv => whnf)
      | ((with_reducible refine Nd.mk ?_ ?_); (focus (first | omega | rfl | assumption | (simp; done))); conv => whnf)
      | ((with_reducible refine Nc.go' (fun _ => ?_)); conv => whnf)
      | ((with_reducible refine Ix.ad ?_ ?_ ?_); (focus (exact Rd.ad (by assumption))); (focus (omega)); conv => whnf)
      | (refine Ld.at 0 rfl rfl ?_; conv => whnf)
      | ((with_reducible apply LdN.rdk); (focus ((repeat (first | assumption | apply Rd.cons)); done)); (focus rfl); (focus rfl); (focus (omega)); conv => whnf)
      | (refine St.at 0 rfl (by first | exact Nat.le_of_ble_eq_true rfl | (simp; done)) rfl ?_; conv => whnf)
      | ((with_reducible refine (?_ : Sm _ (Instr.mapUpdate _ _ _ _ >>= _) _ _)); (refine Sm.putNew Tryz.tysOk 1 rfl rfl rfl rfl rfl (by first | exact rfl | exact trivial) (hno2) ?_; conv => whnf)))
    all_goals first | (exfalso; omega) | exact ⟨k + 1, es ++ [(.int .i64 (l.getD k pcE.d).a, .int .i64 1)], by kernel_rfl, by (refine FEnt.ent ?_; (repeat (first | exact FEnt.rfl | (refine FEnt.at 1 rfl ?_; (try simp only [List.eraseIdx_cons_zero, List.eraseIdx_cons_succ, List.eraseIdx_zero, List.tail_cons])) | refine FEnt.drop ?_)); done), ⟨by omega, hst⟩, by omega⟩
  · rw [List.take_of_length_le (by omega)] at g2
    clear ca cp hc
    conv => whnf
    repeat' (first
      | ((with_reducible refine Br.df ?_ ?_); (focus (first | assumption | omega)); conv => whnf)
      | ((with_reducible refine Nw.map (.int .i64) (fun _ => ?_)); conv => whnf))
    rename_i m2
    conv => whnf
    refine Lp.by3 Tryz.tysOk [27] (fun (k : Nat) (fs : List (Value × Value)) (M : List (Int × Int)) => [.int .i64 k]) (fun k fs M => mapH m2 (.int .i64) fs :: mapH m (.int .i64) es :: L) (fun k fs M => (k ≤ l.length ∧ fs = tbV M) ∧ (∀ q ∈ M, 1 ≤ q.2 ∧ q.2 ≤ k) ∧ tkF (bgP l e) (M.map (·.1)) (l.drop k) = K) (fun k fs M => l.length - k) (0) (([] : List (Value × Value))) (([] : List (Int × Int))) (by kernel_rfl) (by (exact Ent.rfl)) (⟨⟨by omega, rfl⟩, fun q hq => absurd hq (by simp), hK⟩) ?_
    rintro j fs M ⟨⟨u1, u2⟩, u3, u4⟩
    conv => whnf
    repeat (intro _; conv => whnf)
    by_cases hj : j < l.length
    · have hgo := fun L => Tryz.disGoes (l.getD j pcE.d) L
      rw [pc_drop hj, tkF] at u4
      have hmono : ∀ q ∈ M, 1 ≤ q.2 ∧ q.2 ≤ ((j + 1 : Nat) : Int) := fun q hq => by have := u3 q hq; omega
      clear hK
      by_cases hg : goesP (l.getD j pcE.d)
      · have hgo := fun L => Con.dt hg (hgo L)
        by_cases hb : bgP l e (l.getD j pcE.d).n
        · rw [if_pos ⟨hg, hb⟩] at u4
          obtain ⟨i1, v1, b1, b2⟩ := tb_some ((bgM_keys l e _).2 hb)
          have b3 := bgM_one b1
          subst b3
          rw [← g2] at b2
          clear hg hb b1
          by_cases hm : (l.getD j pcE.d).n ∈ M.map (·.1)
          · rw [if_pos hm] at u4
            obtain ⟨i2, v2, d1, d2⟩ := tb_some hm
            have d3 := u3 _ (List.mem_of_getElem? d1)
            have d4 : fs.set i2 (.int .i64 (l.getD j pcE.d).n, .int .i64 (v2 + 1)) = tbV (M.set i2 ((l.getD j pcE.d).n, v2 + 1)) := by rw [u2, tb_set]
            have d5 := keys_set (w := v2 + 1) d1
            have d6 : ∀ q ∈ M.set i2 ((l.getD j pcE.d).n, v2 + 1), 1 ≤ q.2 ∧ q.2 ≤ ((j + 1 : Nat) : Int) := fun q hq => by
              rcases List.mem_or_eq_of_mem_set hq with hq | rfl
              · exact hmono q hq
              · dsimp only at d3 ⊢
                omega
            rw [← u2] at d2
            rw [← d5] at u4
            dsimp only at d3
            clear hm d1 d5 hmono u3 u2 g2
            conv => whnf
            repeat' (first
              | (first | ((with_reducible refine Br.tt ?_); conv => whnf) | ((with_reducible refine Br.dt ?_ ?_); (focus (first | assumption | omega)); conv => whnf))
              | ((with_reducible refine Ar.i64 ?_ ?_); (focus omega); conv => whnf)
              | ((with_reducible refine Nd.mk ?_ ?_); (focus (first | omega | rfl | assumption | (simp; done))); conv => whnf)
              | ((with_reducible refine Nc.go' (fun _ => ?_)); conv => whnf)
              | ((with_reducible refine Ix.ad ?_ ?_ ?_); (focus (exact Rd.ad (by assumption))); (focus (omega)); conv => whnf)
              | (refine Ld.at 0 rfl rfl ?_; conv => whnf)
              | (first | ((with_reducible apply LdN.rdk); (focus ((repeat (first | assumption | apply Rd.cons)); done)); (focus rfl); (focus rfl); (focus (omega)); conv => whnf) | (refine LdN.at 0 rfl (by first | exact Nat.le_of_ble_eq_true rfl | (simp; done)) ?_; conv => whnf))
              | (refine St.at 0 rfl (by first | exact Nat.le_of_ble_eq_true rfl | (simp; done)) rfl ?_; conv => whnf)
              | ((with_reducible refine (?_ : Sm _ (Instr.lookup _ _ _ _) _ _)); (first | (refine Sm.lkYes Tryz.tysOk 2 rfl rfl rfl rfl rfl (by first | exact rfl | exact trivial) _ (b2) ?_; conv => whnf) | (refine Sm.lkYes Tryz.tysOk 1 rfl rfl rfl rfl rfl (by first | exact rfl | exact trivial) _ (d2) ?_; conv => whnf)))
              | ((with_reducible refine (?_ : Sm _ (Instr.mapUpdate _ _ _ _ >>= _) _ _)); (refine Sm.putAt Tryz.tysOk 1 rfl rfl rfl rfl rfl (by first | exact rfl | exact trivial) _ (d2) ?_; conv => whnf))
              | ((with_reducible refine (?_ : Cl _ 29 _ _ _ _)); (refine Cl.is (hgo _) ?_); conv => whnf))
            all_goals first | (exfalso; omega) | exact ⟨j + 1, fs.set i2 (.int .i64 (l.getD j pcE.d).n, .int .i64 (v2 + 1)), M.set i2 ((l.getD j pcE.d).n, v2 + 1), by kernel_rfl, by (refine FEnt.ent ?_; (repeat (first | exact FEnt.rfl | (refine FEnt.at 1 rfl ?_; (try simp only [List.eraseIdx_cons_zero, List.eraseIdx_cons_succ, List.eraseIdx_zero, List.tail_cons])) | refine FEnt.drop ?_)); done), ⟨⟨by omega, d4⟩, d6, u4⟩, by omega⟩
          · rw [if_neg hm] at u4
            have d2 := tb_none hm
            have d4 : fs ++ [(.int .i64 (l.getD j pcE.d).n, .int .i64 1)] = tbV (M ++ [((l.getD j pcE.d).n, 1)]) := by rw [u2, tb_add]
            have d6 : ∀ q ∈ M ++ [((l.getD j pcE.d).n, 1)], 1 ≤ q.2 ∧ q.2 ≤ ((j + 1 : Nat) : Int) := fun q hq => by
              rcases List.mem_append.1 hq with hq | hq
              · exact hmono q hq
              · rw [List.mem_singleton.1 hq]
                dsimp only
                omega
            have d7 : (M ++ [((l.getD j pcE.d).n, (1 : Int))]).map (·.1) = M.map (·.1) ++ [(l.getD j pcE.d).n] := by rw [List.map_append]; rfl
            rw [← u2] at d2
            rw [← d7] at u4
            clear hm d7 hmono u3 u2 g2
            conv => whnf
            repeat' (first
              | (first | ((with_reducible refine Br.tt ?_); conv => whnf) | ((with_reducible refine Br.dt ?_ ?_); (focus (first | assumption | omega)); conv => whnf))
              | ((with_reducible refine Ar.i64 ?_ ?_); (focus omega); conv => whnf)
              | ((with_reducible refine Nd.mk ?_ ?_); (focus (first | omega | rfl | assumption | (simp; done))); conv => whnf)
              | ((with_reducible refine Nc.go' (fun _ => ?_)); conv => whnf)
              | ((with_reducible refine Ix.ad ?_ ?_ ?_); (focus (exact Rd.ad (by assumption))); (focus (omega)); conv => whnf)
              | (refine Ld.at 0 rfl rfl ?_; conv => whnf)
              | (first | ((with_reducible apply LdN.rdk); (focus ((repeat (first | assumption | apply Rd.cons)); done)); (focus rfl); (focus rfl); (focus (omega)); conv => whnf) | (refine LdN.at 0 rfl (by first | exact Nat.le_of_ble_eq_true rfl | (simp; done)) ?_; conv => whnf))
              | (refine St.at 0 rfl (by first | exact Nat.le_of_ble_eq_true rfl | (simp; done)) rfl ?_; conv => whnf)
              | ((with_reducible refine (?_ : Sm _ (Instr.lookup _ _ _ _) _ _)); (first | (refine Sm.lkYes Tryz.tysOk 2 rfl rfl rfl rfl rfl (by first | exact rfl | exact trivial) _ (b2) ?_; conv => whnf) | (refine Sm.lkNo Tryz.tysOk 1 rfl rfl rfl rfl rfl rfl (by first | exact rfl | exact trivial) (d2) ?_; conv => whnf)))
              | ((with_reducible refine (?_ : Sm _ (Instr.mapUpdate _ _ _ _ >>= _) _ _)); (refine Sm.putNew Tryz.tysOk 1 rfl rfl rfl rfl rfl (by first | exact rfl | exact trivial) (d2) ?_; conv => whnf))
              | ((with_reducible refine (?_ : Cl _ 29 _ _ _ _)); (refine Cl.is (hgo _) ?_); conv => whnf))
            all_goals first | (exfalso; omega) | exact ⟨j + 1, fs ++ [(.int .i64 (l.getD j pcE.d).n, .int .i64 1)], M ++ [((l.getD j pcE.d).n, 1)], by kernel_rfl, by (refine FEnt.ent ?_; (repeat (first | exact FEnt.rfl | (refine FEnt.at 1 rfl ?_; (try simp only [List.eraseIdx_cons_zero, List.eraseIdx_cons_succ, List.eraseIdx_zero, List.tail_cons])) | refine FEnt.drop ?_)); done), ⟨⟨by omega, d4⟩, d6, u4⟩, by omega⟩
        · rw [if_neg (fun h => hb h.2)] at u4
          have b2 := tb_none (fun h => hb ((bgM_keys l e _).1 h))
          rw [← g2] at b2
          clear hg hb
          conv => whnf
          repeat' (first
            | (first | ((with_reducible refine Br.tt ?_); conv => whnf) | ((with_reducible refine Br.dt ?_ ?_); (focus (first | assumption | omega)); conv => whnf) | ((with_reducible refine Br.df ?_ ?_); (focus (first | assumption | omega)); conv => whnf))
            | ((with_reducible refine Ar.i64 ?_ ?_); (focus omega); conv => whnf)
            | ((with_reducible refine Nd.mk ?_ ?_); (focus (first | omega | rfl | assumption | (simp; done))); conv => whnf)
            | ((with_reducible refine Nc.go' (fun _ => ?_)); conv => whnf)
            | ((with_reducible refine Ix.ad ?_ ?_ ?_); (focus (exact Rd.ad (by assumption))); (focus (omega)); conv => whnf)
            | (refine Ld.at 0 rfl rfl ?_; conv => whnf)
            | (first | ((with_reducible apply LdN.rdk); (focus ((repeat (first | assumption | apply Rd.cons)); done)); (focus rfl); (focus rfl); (focus (omega)); conv => whnf) | (refine LdN.at 0 rfl (by first | exact Nat.le_of_ble_eq_true rfl | (simp; done)) ?_; conv => whnf))
            | (refine St.at 0 rfl (by first | exact Nat.le_of_ble_eq_true rfl | (simp; done)) rfl ?_; conv => whnf)
            | ((with_reducible refine (?_ : Sm _ (Instr.lookup _ _ _ _) _ _)); (refine Sm.lkNo Tryz.tysOk 2 rfl rfl rfl rfl rfl rfl (by first | exact rfl | exact trivial) (b2) ?_; conv => whnf))
            | ((with_reducible refine (?_ : Cl _ 29 _ _ _ _)); (refine Cl.is (hgo _) ?_); conv => whnf))
          all_goals first | (exfalso; omega) | exact ⟨j + 1, fs, M, by kernel_rfl, by (refine FEnt.ent ?_; (repeat (first | exact FEnt.rfl | (refine FEnt.at 1 rfl ?_; (try simp only [List.eraseIdx_cons_zero, List.eraseIdx_cons_succ, List.eraseIdx_zero, List.tail_cons])) | refine FEnt.drop ?_)); done), ⟨⟨by omega, u2⟩, hmono, u4⟩, by omega⟩
      · have hgo := fun L => Con.df hg (hgo L)
        rw [if_neg (fun h => hg h.1)] at u4
        clear hg
        conv => whnf
        repeat' (first
          | (first | ((with_reducible refine Br.ff ?_); conv => whnf) | ((with_reducible refine Br.dt ?_ ?_); (focus (first | assumption | omega)); conv => whnf))
          | ((with_reducible refine Ar.i64 ?_ ?_); (focus omega); conv => whnf)
          | ((with_reducible refine Nd.mk ?_ ?_); (focus (first | omega | rfl | assumption | (simp; done))); conv => whnf)
          | ((with_reducible refine Nc.go' (fun _ => ?_)); conv => whnf)
          | ((with_reducible refine Ix.ad ?_ ?_ ?_); (focus (exact Rd.ad (by assumption))); (focus (omega)); conv => whnf)
          | (first | ((with_reducible apply LdN.rdk); (focus ((repeat (first | assumption | apply Rd.cons)); done)); (focus rfl); (focus rfl); (focus (omega)); conv => whnf) | (refine LdN.at 0 rfl (by first | exact Nat.le_of_ble_eq_true rfl | (simp; done)) ?_; conv => whnf))
          | (refine St.at 0 rfl (by first | exact Nat.le_of_ble_eq_true rfl | (simp; done)) rfl ?_; conv => whnf)
          | ((with_reducible refine (?_ : Cl _ 29 _ _ _ _)); (refine Cl.is (hgo _) ?_); conv => whnf))
        all_goals first | (exfalso; omega) | exact ⟨j + 1, fs, M, by kernel_rfl, by (refine FEnt.ent ?_; (repeat (first | exact FEnt.rfl | (refine FEnt.at 1 rfl ?_; (try simp only [List.eraseIdx_cons_zero, List.eraseIdx_cons_succ, List.eraseIdx_zero, List.tail_cons])) | refine FEnt.drop ?_)); done), ⟨⟨by omega, u2⟩, hmono, u4⟩, by omega⟩
    · rw [List.drop_eq_nil_of_le (by omega), tkF] at u4
      have u5 : ∀ q ∈ M, 1 ≤ q.2 := fun q hq => (u3 q hq).1
      subst u2
      clear hK u3
      conv => whnf
      repeat' ((with_reducible refine Br.df ?_ ?_); (focus (first | assumption | omega)); conv => whnf)
      all_goals first | (exfalso; omega) | exact Exs.of ((m2, M) : Nat × List (Int × Int)) (by (try dsimp only); (refine FEnt.ent ?_; (repeat (first | exact FEnt.rfl | (refine FEnt.at 0 rfl ?_; (try simp only [List.eraseIdx_cons_zero, List.eraseIdx_cons_succ, List.eraseIdx_zero, List.tail_cons])) | refine FEnt.drop ?_)); done)) ⟨u4, u5⟩ rfl
end Go.Proofs
