/- Tables of wishes: what must be whatever is asked; the statement on gaps. -/
import Derived.Test.YtabonallopdgdaaBuildB
import Derived.Test.YtabonallopdgdaaBuildA
set_option linter.all false
namespace Go.Proofs
open Go.Eng
open Classical
set_option linter.unusedVariables false
set_option maxRecDepth 100000
set_option maxHeartbeats 2000000
abbrev liveW : Wsh := ⟨64, 2, 1, 0, 0, 10⟩
theorem ringN_2 : ringN 2 = 18 := by unfold ringN; rw [if_pos (.inr (.inl rfl))]; rfl
theorem liveW_had : HadT [liveW] := by
  refine ⟨by decide, fun w hw => ?_, fun k hk => ?_⟩
  · rw [List.mem_singleton.1 hw]
    exact ⟨⟨by decide, by decide, .inr (.inl rfl), by show ringN 2 ≤ 64; rw [ringN_2]; decide⟩, by decide, by decide⟩
  · have : k = 0 := by simp at hk; exact hk
    subst this
    decide
theorem liveW_win : winT [liveW] 1 = [(0, 0, 2), (1, 2, 12)] := by decide
theorem liveW_slo : sloT [liveW] 1 = [(1, 0, 4)] := by decide
theorem liveW_fr : frT [liveW] 1 = 12 := by decide
theorem liveW_cli : cliT [liveW] 1 = [⟨128, 64, 2, 46, 1, 0, 1, 1, 0, 0⟩] := by
  show [_] = [_]
  unfold cliW
  simp only [List.getD_cons_zero]
  rw [ringN_2]
  rfl
theorem Try.bldLive (L : List HP) : Con Try.prog 12 [] L (Is (.bool true) L) := by
  have ht := fun b L (h : Rd wsE L (some ⟨b, 0, none⟩) [liveW]) => Try.bldTables (some ⟨b, 0, none⟩) 1 [liveW] L liveW_had h
  have e1 : ([liveW] : List Wsh).length = 1 := rfl
  rw [e1, liveW_win, liveW_slo, liveW_fr, liveW_cli] at ht
  refine con_of Try.tysOk Try.func12 rfl rfl ?_
  conv => whnf
  repeat' (first
    | (first | ((with_reducible refine Br.tt ?_); conv => whnf) | ((with_reducible refine Br.dt ?_ ?_); (focus (first | assumption | omega)); conv => whnf) | ((with_reducible refine Br.yes ?_ ?_); (focus (first | (simp; done) | (simp; omega))); conv => whnf))
    | ((with_reducible refine Nd.mk ?_ ?_); (focus (first | omega | rfl | assumption | (simp; done))); conv => whnf)
    | ((with_reducible refine Nc.go' (fun _ => ?_)); conv => whnf)
    | ((with_reducible refine Ix.ad ?_ ?_ ?_); (focus (assumption)); (focus ((simp only [List.length_append, List.length_cons, List.length_nil]); omega)); conv => whnf)
    | (first | ((apply Ld.rd); (focus ((repeat ((refine Rd.own 3 rfl ?_); (assumption))); done)); (focus rfl); (focus ((simp only [List.length_append, List.length_cons, List.length_nil]); omega)); (focus rfl); conv => whnf) | (refine Ld.at 0 rfl rfl ?_; conv => whnf))
    | ((apply LdN.rd); (focus ((repeat ((first | refine Rd.own 1 rfl ?_ | refine Rd.own 2 rfl ?_); (assumption))); done)); (focus rfl); (focus rfl); (focus ((simp only [List.length_append, List.length_cons, List.length_nil]); omega)); conv => whnf)
    | (refine St.at 0 rfl (by first | exact Nat.le_of_ble_eq_true rfl | (simp; done)) rfl ?_; conv => whnf)
    | ((with_reducible refine (?_ : Cl _ 9 _ _ _ _)); (refine Cl.exs (ht _ _ (Rd.ptc 0 rfl [liveW] rfl)) ?_; rintro ⟨⟨wa, wc⟩, ⟨sa, sc⟩, ⟨ca, cc⟩⟩ ⟨⟨w1, w2⟩, ⟨s1, s2⟩, ⟨c1, c2⟩⟩; dsimp only at w1 w2 s1 s2 c1 c2); conv => whnf))
  all_goals first | (refine Is.ent ?_ ?_; (focus (refine FEnt.ent ?_; (repeat (first | exact FEnt.rfl | refine FEnt.drop ?_)); done)); (exact Is.rfl)) | (exfalso; omega)
abbrev sp12 (xs : List Sp) : List Sp := List.take (min (xs.length : Int) 12).toNat xs
theorem sp12_len (xs : List Sp) : (sp12 xs).length ≤ 12 := by unfold sp12; rw [List.length_take]; omega
theorem Try.buildGapsLaw (n least size : Int) (a : Option Addr) (c : Nat) (xs : List Sp) (L : List HP) (hn : I64 n) (hl : I64 least) (hs : I64 size) (hc : xs.length ≤ c) (hm : c ≤ 9223372036854775807) (hr : Rd spE L a xs) :
    Con Try.prog 4 [n64 n, n64 least, n64 size, .slice a xs.length c] L (Is (.bool true) L) := by
  have h12 := sp12_len xs
  have hr2 : Rd spE L a (sp12 xs) := hr.take _
  by_cases hg : 1 ≤ size ∧ 0 ≤ least ∧ n ≤ 2147483647
  · obtain ⟨r, hR⟩ := gapR_ex (runF n (fun m => ¬ inS (sp12 xs) m)) least size
    have hro : RunsOf n (fun m => ¬ inS (sp12 xs) m) (runF n (fun m => ¬ inS (sp12 xs) m)) := runs_ok
    have hgp := fun L h => Try.buildGap n least size r a c (sp12 xs) L (by omega) hg hl.2 h hR
    have hrg := fun L h => Try.refGap n least size r a c (sp12 xs) L (by omega) hg hl.2 hs.2 h (gap_same hg.1 hg.2.1 hro hR)
    have hb : r < 0 ∨ (least ≤ r ∧ r < n) := by
      rcases hR with ⟨k, hk, hf, _, hr⟩ | ⟨hr, _⟩
      · have h1 := (runs_in hro _ (getD_mem (d := spE.d) hk)).2
        have h2 := hf.1
        have h3 := hf.2
        refine .inr ⟨by omega, by omega⟩
      · exact .inl (by omega)
    clear hR hro
    simp only [sp12] at *
    by_cases h4 : n ≤ 400
    · refine con_of Try.tysOk Try.func4 rfl rfl ?_
      conv => whnf
      repeat' (first
        | (first | ((with_reducible refine Br.tt ?_); conv => whnf) | ((with_reducible refine Br.ff ?_); conv => whnf) | ((with_reducible refine Br.df ?_ ?_); (focus (first | assumption | omega)); conv => whnf))
        | ((with_reducible refine Sub.pre ?_ rfl ?_ ?_ ?_); (focus (first | exact Or.inl rfl | exact Or.inr ⟨_, rfl⟩)); (focus (omega)); (focus (omega)); conv => whnf)
        | (first | ((with_reducible refine Cl.is (hgp _ (by ((repeat (assumption)); done))) ?_); conv => whnf) | ((with_reducible refine Cl.is (Try.bldLive _) ?_); conv => whnf) | ((with_reducible refine Cl.is (hrg _ (by ((repeat (assumption)); done))) ?_); conv => whnf)))
      all_goals first | (refine Is.ent ?_ ?_; (focus (exact Ent.rfl)); (exact Is.ttr (by first | assumption | omega))) | (exfalso; omega)
    · rcases hb with hb | hb
      · refine con_of Try.tysOk Try.func4 rfl rfl ?_
        conv => whnf
        repeat' (first
          | (first | ((with_reducible refine Br.tt ?_); conv => whnf) | ((with_reducible refine Br.ff ?_); conv => whnf) | ((with_reducible refine Br.dt ?_ ?_); (focus (first | assumption | omega)); conv => whnf) | ((with_reducible refine Br.df ?_ ?_); (focus (first | assumption | omega)); conv => whnf))
          | ((with_reducible refine Sub.pre ?_ rfl ?_ ?_ ?_); (focus (first | exact Or.inl rfl | exact Or.inr ⟨_, rfl⟩)); (focus (omega)); (focus (omega)); conv => whnf)
          | (first | ((with_reducible refine Cl.is (hgp _ (by ((repeat (assumption)); done))) ?_); conv => whnf) | ((with_reducible refine Cl.is (Try.bldLive _) ?_); conv => whnf)))
        all_goals first | (refine Is.ent ?_ ?_; (focus (exact Ent.rfl)); (exact Is.rfl)) | (exfalso; omega)
      · refine con_of Try.tysOk Try.func4 rfl rfl ?_
        conv => whnf
        repeat' (first
          | (first | ((with_reducible refine Br.tt ?_); conv => whnf) | ((with_reducible refine Br.ff ?_); conv => whnf) | ((with_reducible refine Br.dt ?_ ?_); (focus (first | assumption | omega)); conv => whnf) | ((with_reducible refine Br.df ?_ ?_); (focus (first | assumption | omega)); conv => whnf))
          | ((with_reducible refine Sub.pre ?_ rfl ?_ ?_ ?_); (focus (first | exact Or.inl rfl | exact Or.inr ⟨_, rfl⟩)); (focus (omega)); (focus (omega)); conv => whnf)
          | (first | ((with_reducible refine Cl.is (hgp _ (by ((repeat (assumption)); done))) ?_); conv => whnf) | ((with_reducible refine Cl.is (Try.bldLive _) ?_); conv => whnf)))
        all_goals first | (refine Is.ent ?_ ?_; (focus (exact Ent.rfl)); (exact Is.ttr (by first | assumption | omega))) | (exfalso; omega)
  · have hgp := fun v L => Try.buildGapNo n least size v L hg
    refine con_of Try.tysOk Try.func4 rfl rfl ?_
    conv => whnf
    repeat' (first
      | (first | ((with_reducible refine Br.tt ?_); conv => whnf) | ((with_reducible refine Br.ff ?_); conv => whnf) | ((with_reducible refine Br.dt ?_ ?_); (focus (first | assumption | omega)); conv => whnf))
      | ((with_reducible refine Sub.pre ?_ rfl ?_ ?_ ?_); (focus (first | exact Or.inl rfl | exact Or.inr ⟨_, rfl⟩)); (focus (omega)); (focus (omega)); conv => whnf)
      | (first | ((with_reducible refine Cl.is (hgp _ _) ?_); conv => whnf) | ((with_reducible refine Cl.is (Try.bldLive _) ?_); conv => whnf))
      | ((with_reducible refine Br.ds (fun _ => ?_) (fun _ => ?_) ) <;> (conv => whnf)))
    all_goals first | (refine Is.ent ?_ ?_; (focus (exact Ent.rfl)); (exact Is.rfl)) | (exfalso; omega)
end Go.Proofs
