/- Whether two images are the same: a contract. -/
import Derived.Test.YtdjpcfaidgofoaaGreatTopC
import Derived.Test.YtdjpcfaidgofoaaGreatTopD
import Derived.Test.YtdjpcfaidgofoaaGreatConfF
import Derived.Test.YtdjpcfaidgofoaaGreatConfG
set_option linter.all false
namespace Go.Proofs
open Go.Eng
open Classical
set_option linter.unusedVariables false
set_option maxRecDepth 100000
set_option maxHeartbeats 4000000
theorem imgE_bad {s : ByteArray} (h : s.size < 2 ∨ ¬ sealB (cutB s) = s) : (if s.size < 2 then (5 : Int) else if sealB (cutB s) = s then 0 else 10) = imgE s ∧ ¬ imgE s = 0 := by
  unfold imgE
  by_cases h2 : s.size < 2
  · rw [if_pos h2, if_pos h2]; exact ⟨rfl, by decide⟩
  · have h3 : ¬ sealB (cutB s) = s := h.resolve_left h2
    rw [if_neg h2, if_neg h3, if_neg h2, if_neg h3]; exact ⟨rfl, by decide⟩
theorem imgE_ok {s : ByteArray} (h : ¬ (s.size < 2 ∨ ¬ sealB (cutB s) = s)) : 2 ≤ s.size ∧ sealB (cutB s) = s ∧ imgE s = prsE (cutB s) := by
  have h2 : ¬ s.size < 2 := fun hh => h (.inl hh)
  have h3 : sealB (cutB s) = s := Classical.not_not.1 fun hh => h (.inr hh)
  refine ⟨by omega, h3, ?_⟩
  unfold imgE
  rw [if_neg h2, if_pos h3]
abbrev CapsOk (y : Cfg) : Prop := (y.ws.length ≤ y.wc ∧ Ad y.wa y.ws.length) ∧ (y.ss.length ≤ y.sc ∧ Ad y.sa y.ss.length) ∧ (y.xs.length ≤ y.cc ∧ Ad y.ca y.xs.length)
theorem capsNo : CapsOk noCfg := ⟨⟨Nat.le_refl 0, fun h => absurd rfl h⟩, ⟨Nat.le_refl 0, fun h => absurd rfl h⟩, ⟨Nat.le_refl 0, fun h => absurd rfl h⟩⟩
theorem Tryz.imgParse (s : ByteArray) (L : List HP) (hs : s.size ≤ 1000000) : Con Tryz.prog 20 [.string s] L (Tryz.PrsP s L) := by
  by_cases h : s.size < 2 ∨ ¬ sealB (cutB s) = s
  · have hop := fun L => Tryz.crcOpen s L hs
    rw [if_pos h] at hop
    obtain ⟨e1, e2⟩ := imgE_bad h
    rw [e1] at hop
    have NO : ∀ e : Int, ¬ e = 0 → (e = 0 → TbIs s noCfg) ∧ CapsOk noCfg := fun e he => ⟨fun h => absurd h he, capsNo⟩
    unfold Tryz.PrsP
    clear h e1
    generalize imgE s = e at *
    have NO := NO e e2
    refine con_of Tryz.tysOk Tryz.func20 rfl rfl ?_
    conv => whnf
    repeat' (first
      | ((with_reducible refine Br.ndt ?_ ?_); (focus (first | assumption | omega)); conv => whnf)
      | ((with_reducible refine Nd.mk ?_ ?_); (focus (first | omega | rfl | assumption | (simp; done))); conv => whnf)
      | ((with_reducible refine Nc.go' (fun _ => ?_)); conv => whnf)
      | (refine LdN.at 0 rfl (by first | exact Nat.le_of_ble_eq_true rfl | (simp; done)) ?_; conv => whnf)
      | (refine St.at 0 rfl (by first | exact Nat.le_of_ble_eq_true rfl | (simp; done)) rfl ?_; conv => whnf)
      | ((with_reducible refine Cl.is (hop _) ?_); conv => whnf))
    all_goals first | (exfalso; omega) | exact Exs.of noCfg (by (try dsimp only); (refine FEnt.ent ?_; (repeat (first | exact FEnt.rfl | refine FEnt.nil ?_ | refine FEnt.drop ?_)); done)) NO rfl
  · obtain ⟨h2, h3, h4⟩ := imgE_ok h
    have hz : (cutB s).size ≤ 1000000 := by rw [ByteArray.size_extract]; omega
    have hop : ∀ L, Con Tryz.prog 48 [.string s] L (Is (.tuple #[.string (cutB s), i64W 0]) L) := fun L => by
      have := Tryz.crcOpen s L hs
      rwa [if_neg h, if_neg (show ¬ s.size < 2 by omega), if_pos h3] at this
    unfold Tryz.PrsP
    rw [h4]
    refine (Tryz.imgParse2 s (cutB s) L hz hop (fun b t0 L ht => Tryz.imgTables b (cutB s) t0 L ht hz)).mono (fun v L' hh => ?_) (fun _ _ h => h)
    obtain ⟨y, ⟨g1, g2⟩, rfl, g3⟩ := hh.go
    exact Exs.of y g3 ⟨fun h0 => ⟨(g1 h0).1, (g1 h0).2.1, (g1 h0).2.2.1, (g1 h0).2.2.2⟩, g2⟩ rfl
theorem Tryz.refParse (s : ByteArray) (L : List HP) (hs : s.size ≤ 1000000) : Con Tryz.prog 6 [.string s] L (Tryz.PrsP s L) := by
  by_cases h : s.size < 2 ∨ ¬ sealB (cutB s) = s
  · obtain ⟨e1, e2⟩ := imgE_bad h
    have NO : ∀ e : Int, ¬ e = 0 → (e = 0 → TbIs s noCfg) ∧ CapsOk noCfg := fun e he => ⟨fun h => absurd h he, capsNo⟩
    have NO := NO _ e2
    unfold Tryz.PrsP
    by_cases h2 : s.size < 2
    · rw [if_pos h2] at e1
      rw [← e1] at NO ⊢
      clear h e1 e2
      refine con_of Tryz.tysOk Tryz.func6 rfl rfl ?_
      conv => whnf
      repeat' (first
        | ((with_reducible refine Br.dt ?_ ?_); (focus (first | assumption | omega)); conv => whnf)
        | ((with_reducible refine Nd.mk ?_ ?_); (focus (first | omega | rfl | assumption | (simp; done))); conv => whnf)
        | ((with_reducible refine Nc.go' (fun _ => ?_)); conv => whnf)
        | (refine LdN.at 0 rfl (by first | exact Nat.le_of_ble_eq_true rfl | (simp; done)) ?_; conv => whnf)
        | (refine St.at 0 rfl (by first | exact Nat.le_of_ble_eq_true rfl | (simp; done)) rfl ?_; conv => whnf))
      all_goals first | (exfalso; omega) | exact Exs.of noCfg (by (try dsimp only); (refine FEnt.ent ?_; (repeat (first | exact FEnt.rfl | refine FEnt.nil ?_ | refine FEnt.drop ?_)); done)) NO rfl
    · have h3 : ¬ sealB (cutB s) = s := h.resolve_left h2
      rw [if_neg h2, if_neg h3] at e1
      rw [← e1] at NO ⊢
      have hz : (cutB s).size ≤ 1000000 := by rw [ByteArray.size_extract]; omega
      have hse := fun L => Tryz.seal08 (cutB s) L hz
      have e : (s.size : Int) - 2 = ((s.size - 2 : Nat) : Int) := by omega
      have ec : cutB s = s.extract 0 (Int.toNat ((s.size : Int) - 2)) := by rw [e]; rfl
      rw [ec] at hse h3
      clear h e1 e2 ec e hz
      generalize sealB (s.extract 0 (Int.toNat ((s.size : Int) - 2))) = Z at *
      refine con_of Tryz.tysOk Tryz.func6 rfl rfl ?_
      conv => whnf
      repeat' (first
        | (first | ((with_reducible refine Br.df ?_ ?_); (focus (first | assumption | omega)); conv => whnf) | ((with_reducible refine Br.ndt ?_ ?_); (focus (first | assumption | omega)); conv => whnf))
        | ((with_reducible refine Ar.i64 ?_ ?_); (focus omega); conv => whnf)
        | ((with_reducible refine Nd.mk ?_ ?_); (focus (first | omega | rfl | assumption | (simp; done))); conv => whnf)
        | ((with_reducible refine Nc.go' (fun _ => ?_)); conv => whnf)
        | ((with_reducible refine SubS.pre ?_ ?_); (focus (omega)); conv => whnf)
        | (refine LdN.at 0 rfl (by first | exact Nat.le_of_ble_eq_true rfl | (simp; done)) ?_; conv => whnf)
        | (refine St.at 0 rfl (by first | exact Nat.le_of_ble_eq_true rfl | (simp; done)) rfl ?_; conv => whnf)
        | ((with_reducible refine Cl.is (hse _) ?_); conv => whnf))
      all_goals first | (exfalso; omega) | exact Exs.of noCfg (by (try dsimp only); (refine FEnt.ent ?_; (repeat (first | exact FEnt.rfl | refine FEnt.nil ?_ | refine FEnt.drop ?_)); done)) NO rfl
  · obtain ⟨h2, h3, h4⟩ := imgE_ok h
    have hz0 : (cutB s).size = s.size - 2 := by rw [ByteArray.size_extract]; omega
    have e : (s.size : Int) - 2 = ((s.size - 2 : Nat) : Int) := by omega
    have hse : ∀ L, Con Tryz.prog 5 [.string (cutB s)] L (Is (.string s) L) := fun L => by
      have := Tryz.seal08 (cutB s) L (by omega)
      rwa [h3] at this
    unfold Tryz.PrsP
    rw [h4]
    refine (Tryz.refParse16 s (cutB s) L hs h2 hz0 (by rw [e]; rfl) hse).mono (fun v L' hh => ?_) (fun _ _ h => h)
    obtain ⟨y, ⟨g1, g2⟩, rfl, g3⟩ := hh.go
    exact Exs.of y g3 ⟨fun h0 => ⟨(g1 h0).1, (g1 h0).2.1, (g1 h0).2.2.1, (g1 h0).2.2.2⟩, g2⟩ rfl
end Go.Proofs
set_option linter.all false
namespace Go.Proofs
open Go.Eng
set_option linter.unusedVariables false
set_option maxRecDepth 100000
set_option maxHeartbeats 8000000
def numE : Enc (Int × Int) := ⟨2, fun r => [n64 r.1, n64 r.2], (0, 0), fun _ => rfl, by omega, fun _ => rfl⟩
def rowN (ws : List Slt) : Nat → List (Int × Int)
  | 0 => []
  | k + 1 => rowN ws k ++ [((ws.getD k slE.d).1, 1), ((ws.getD k slE.d).2.1, 2), ((ws.getD k slE.d).2.2, 2)]
def cliN (xs : List Cli) : Nat → List (Int × Int)
  | 0 => []
  | k + 1 => cliN xs k ++ [((xs.getD k clE.d).b, 2), ((xs.getD k clE.d).z, 2), ((xs.getD k clE.d).r, 1), ((xs.getD k clE.d).t, 2), ((xs.getD k clE.d).q, 1), ((xs.getD k clE.d).u, 1), ((xs.getD k clE.d).m, 1), ((xs.getD k clE.d).h, 1), ((xs.getD k clE.d).f, 2), ((xs.getD k clE.d).s, 1)]
theorem rowN_len (ws : List Slt) : ∀ k, (rowN ws k).length = 3 * k
  | 0 => rfl
  | k + 1 => by rw [rowN, List.length_append, rowN_len ws k]; rfl
theorem cliN_len (xs : List Cli) : ∀ k, (cliN xs k).length = 10 * k
  | 0 => rfl
  | k + 1 => by rw [cliN, List.length_append, cliN_len xs k]; rfl
def nuA (C : Cfg) (k : Nat) : List (Int × Int) := [(67, 1), (1, 1), (C.F, 2), ((C.ws.length : Int), 1)] ++ rowN C.ws k
def nuB (C : Cfg) (k : Nat) : List (Int × Int) := (nuA C C.ws.length ++ [((C.ss.length : Int), 1)]) ++ rowN C.ss k
def nuC (C : Cfg) (k : Nat) : List (Int × Int) := (nuB C C.ss.length ++ [((C.xs.length : Int), 1)]) ++ cliN C.xs k
theorem nuA_len (C : Cfg) (k : Nat) : (nuA C k).length = 4 + 3 * k := by unfold nuA; rw [List.length_append, rowN_len]; rfl
theorem nuB_len (C : Cfg) (k : Nat) : (nuB C k).length = 5 + 3 * C.ws.length + 3 * k := by unfold nuB; rw [List.length_append, List.length_append, nuA_len, rowN_len]; show _ + 1 + _ = _; omega
theorem nuC_len (C : Cfg) (k : Nat) : (nuC C k).length = 6 + 3 * C.ws.length + 3 * C.ss.length + 10 * k := by unfold nuC; rw [List.length_append, List.length_append, nuB_len, cliN_len]; show _ + 1 + _ = _; omega
theorem nuA_succ (C : Cfg) (k : Nat) : nuA C k ++ [((C.ws.getD k slE.d).1, 1), ((C.ws.getD k slE.d).2.1, 2), ((C.ws.getD k slE.d).2.2, 2)] = nuA C (k + 1) := by unfold nuA; rw [rowN, List.append_assoc]
theorem nuB_succ (C : Cfg) (k : Nat) : nuB C k ++ [((C.ss.getD k slE.d).1, 1), ((C.ss.getD k slE.d).2.1, 2), ((C.ss.getD k slE.d).2.2, 2)] = nuB C (k + 1) := by unfold nuB; rw [rowN, List.append_assoc]
theorem nuC_succ (C : Cfg) (k : Nat) : nuC C k ++ [((C.xs.getD k clE.d).b, 2), ((C.xs.getD k clE.d).z, 2), ((C.xs.getD k clE.d).r, 1), ((C.xs.getD k clE.d).t, 2), ((C.xs.getD k clE.d).q, 1), ((C.xs.getD k clE.d).u, 1), ((C.xs.getD k clE.d).m, 1), ((C.xs.getD k clE.d).h, 1), ((C.xs.getD k clE.d).f, 2), ((C.xs.getD k clE.d).s, 1)] = nuC C (k + 1) := by unfold nuC; rw [cliN, List.append_assoc]
theorem nuB_0 (C : Cfg) : nuA C C.ws.length ++ [((C.ss.length : Int), 1)] = nuB C 0 := by unfold nuB; rw [rowN, List.append_nil]
theorem nuC_0 (C : Cfg) : nuB C C.ss.length ++ [((C.xs.length : Int), 1)] = nuC C 0 := by unfold nuC; rw [cliN, List.append_nil]
theorem Tryz.numRow (a b c : Int) (L : List HP) : Con Tryz.prog 75 [n64 a, n64 b, n64 c] L (New numE 89 [(a, 1), (b, 2), (c, 2)] L) := by
  refine con_of Tryz.tysOk Tryz.func75 rfl rfl ?_
  conv => whnf
  repeat' ((with_reducible refine Nc.go' (fun _ => ?_)); conv => whnf)
  all_goals exact New.of rfl (Nat.le_refl _) (fun _ => rfl) (by (refine FEnt.ent ?_; (repeat (first | exact FEnt.rfl | (refine FEnt.lit 0 rfl rfl rfl rfl ?_; (try simp only [List.eraseIdx_cons_zero, List.eraseIdx_cons_succ, List.eraseIdx_zero, List.tail_cons])))); done))
theorem Tryz.numAll (C : Cfg) (L : List HP) (hl : C.ws.length ≤ 300 ∧ C.ss.length ≤ 300 ∧ C.xs.length ≤ 300) (hw : Rd slE L C.wa C.ws) (hs : Rd slE L C.sa C.ss) (hc : Rd clE L C.ca C.xs) :
    Con Tryz.prog 28 [cfV C] L (New numE 89 (nuC C C.xs.length) L) := by
  obtain ⟨l1, l2, l3⟩ := hl
  refine con_of Tryz.tysOk Tryz.func28 rfl rfl ?_
  conv => whnf
  repeat' (first
    | ((with_reducible refine Nc.go' (fun _ => ?_)); conv => whnf)
    | (refine Ld.at 0 rfl rfl ?_; conv => whnf))
  rename_i b1 b2
  conv => whnf
  refine Lp.by2 Tryz.tysOk [4, 3] (fun (k : Nat) (x : Option Addr × Nat × List (Int × Int)) => [.int .i64 k, .slice x.1 x.2.2.length x.2.1]) (fun k x => ptc b1 28 (cfC C) :: own numE 89 x.1 x.2.1 x.2.2 :: L) (fun k x => k ≤ C.ws.length ∧ x.2.2 = nuA C k ∧ x.2.2.length ≤ x.2.1 ∧ Ad x.1 x.2.2.length) (fun k x => C.ws.length - k) (0) (((some ⟨b2, 0, none⟩, 4, [(67, 1), (1, 1), (C.F, 2), ((C.ws.length : Int), 1)]) : Option Addr × Nat × List (Int × Int))) (by kernel_rfl) (by (refine FEnt.ent ?_; (repeat (first | exact FEnt.rfl | (refine FEnt.at 1 rfl ?_; (try simp only [List.eraseIdx_cons_zero, List.eraseIdx_cons_succ, List.eraseIdx_zero, List.tail_cons])) | (refine FEnt.lit 0 rfl rfl rfl rfl ?_; (try simp only [List.eraseIdx_cons_zero, List.eraseIdx_cons_succ, List.eraseIdx_zero, List.tail_cons])))); done)) (⟨by omega, rfl, Nat.le_refl _, fun _ => rfl⟩) ?_
  rintro k ⟨a2, c2, ys⟩ ⟨h1, h2, h3, h4⟩
  conv => whnf
  repeat (intro _; conv => whnf)
  dsimp only at h2 h3 h4
  have hyl : ys.length = 4 + 3 * k := by rw [h2, nuA_len]
  by_cases hk : k < C.ws.length
  · have hsn := nuA_succ C k
    rw [← h2] at hsn
    clear h2
    conv => whnf
    repeat' (first
      | ((with_reducible refine Br.dt ?_ ?_); (focus (first | assumption | omega)); conv => whnf)
      | ((with_reducible refine Ar.i64 ?_ ?_); (focus omega); conv => whnf)
      | ((with_reducible refine Ix.ad ?_ ?_ ?_); (focus (exact Rd.ad (by assumption))); (focus (omega)); conv => whnf)
      | (first | ((first | (with_reducible apply Ld.rdk) | (with_reducible apply Ld.rdk0)); (focus ((repeat (first | assumption | apply Rd.cons)); done)); (focus rfl); (focus (omega)); (focus rfl); conv => whnf) | (refine Ld.at 0 rfl rfl ?_; conv => whnf))
      | ((with_reducible refine Dr.by (id := 5) Tryz.tysOk rfl [(0, 0), (1, 0), (3, 0), (7, 0), (9, 0), (13, 0), (15, 0), (2, 1), (4, 0), (5, 0), (6, 1), (8, 1), (10, 0), (11, 0), (12, 1), (14, 1), (16, 0), (17, 0), (18, 1), (19, 4), (20, 3), (21, 0)] ?_ ?_); (focus kernel_rfl); conv => whnf)
      | ((with_reducible refine CN.new (fun M => Tryz.numRow _ _ _ _) (fun _ _ _ _ => ?_)); conv => whnf)
      | ((with_reducible refine (?_ : Sm _ (Builtin.append_ _ _ _) _ _)); (((with_reducible apply (Sm.appAt (E := numE) (et := 89) Tryz.tysOk 2)); (focus rfl)); ((focus rfl); (focus ((repeat ((refine Rd.own 0 rfl ?_); (assumption))); done))); (focus rfl); (focus rfl); (focus rfl); (focus rfl); (focus rfl); (focus rfl); (focus ((simp only [List.length_append, List.length_cons, List.length_nil]); omega)); (intro _ _ _ _); conv => whnf)))
    all_goals try (exfalso; omega)
    all_goals (rename_i a4 c4 hc4 had4; exact ⟨k + 1, (a4, c4, ys ++ [((C.ws.getD k slE.d).1, 1), ((C.ws.getD k slE.d).2.1, 2), ((C.ws.getD k slE.d).2.2, 2)]), by kernel_rfl, by (try dsimp only); (refine FEnt.ent ?_; (repeat (first | exact FEnt.rfl | (refine FEnt.at 0 rfl ?_; (try simp only [List.eraseIdx_cons_zero, List.eraseIdx_cons_succ, List.eraseIdx_zero, List.tail_cons])) | (refine FEnt.at 2 rfl ?_; (try simp only [List.eraseIdx_cons_zero, List.eraseIdx_cons_succ, List.eraseIdx_zero, List.tail_cons])) | refine FEnt.drop ?_)); done), ⟨by omega, hsn, hc4, had4⟩, by omega⟩)
  · have e : k = C.ws.length := by omega
    have hsn := nuB_0 C
    rw [show nuA C C.ws.length = ys by rw [h2, e]] at hsn
    clear h2
    conv => whnf
    repeat' (first
      | ((with_reducible refine Br.df ?_ ?_); (focus (first | assumption | omega)); conv => whnf)
      | ((with_reducible refine Nc.go' (fun _ => ?_)); conv => whnf)
      | (refine Ld.at 0 rfl rfl ?_; conv => whnf)
      | ((with_reducible refine (?_ : Sm _ (Builtin.append_ _ _ _) _ _)); (((with_reducible apply (Sm.appAt (E := numE) (et := 89) Tryz.tysOk 2)); (focus rfl)); (rotate_left; (focus (exact Rd.ptc 0 rfl [(_, _)] rfl)); rotate_right; (focus rfl)); (focus rfl); (focus rfl); (focus rfl); (focus rfl); (focus rfl); (focus rfl); (focus ((simp only [List.length_append, List.length_cons, List.length_nil]); omega)); (intro _ _ _ _); conv => whnf)))
    all_goals try (exfalso; omega)
    rename_i a5 c5 hc5 had5
    conv => whnf
    refine Lp.by2 Tryz.tysOk [5, 3] (fun (j : Nat) (x : Option Addr × Nat × List (Int × Int)) => [.int .i64 j, .slice x.1 x.2.2.length x.2.1]) (fun j x => ptc b1 28 (cfC C) :: own numE 89 x.1 x.2.1 x.2.2 :: L) (fun j x => j ≤ C.ss.length ∧ x.2.2 = nuB C j ∧ x.2.2.length ≤ x.2.1 ∧ Ad x.1 x.2.2.length) (fun j x => C.ss.length - j) (0) (((a5, c5, ys ++ [((C.ss.length : Int), 1)]) : Option Addr × Nat × List (Int × Int))) (by kernel_rfl) (by (refine FEnt.ent ?_; (repeat (first | exact FEnt.rfl | (refine FEnt.at 0 rfl ?_; (try simp only [List.eraseIdx_cons_zero, List.eraseIdx_cons_succ, List.eraseIdx_zero, List.tail_cons])) | (refine FEnt.at 2 rfl ?_; (try simp only [List.eraseIdx_cons_zero, List.eraseIdx_cons_succ, List.eraseIdx_zero, List.tail_cons])) | refine FEnt.drop ?_)); done)) (⟨by omega, hsn, hc5, had5⟩) ?_
    rintro j ⟨a6, c6, zs⟩ ⟨m1, m2, m3, m4⟩
    conv => whnf
    repeat (intro _; conv => whnf)
    dsimp only at m2 m3 m4
    have hzl : zs.length = 5 + 3 * C.ws.length + 3 * j := by rw [m2, nuB_len]
    clear hsn
    by_cases hj : j < C.ss.length
    · have hsn := nuB_succ C j
      rw [← m2] at hsn
      clear m2
      conv => whnf
      repeat' (first
        | ((with_reducible refine Br.dt ?_ ?_); (focus (first | assumption | omega)); conv => whnf)
        | ((with_reducible refine Ar.i64 ?_ ?_); (focus omega); conv => whnf)
        | ((with_reducible refine Ix.ad ?_ ?_ ?_); (focus (exact Rd.ad (by assumption))); (focus (omega)); conv => whnf)
        | (first | ((first | (with_reducible apply Ld.rdk) | (with_reducible apply Ld.rdk0)); (focus ((repeat (first | assumption | apply Rd.cons)); done)); (focus rfl); (focus (omega)); (focus rfl); conv => whnf) | (refine Ld.at 0 rfl rfl ?_; conv => whnf))
        | ((with_reducible refine Dr.by (id := 10) Tryz.tysOk rfl [(0, 0), (1, 0), (3, 0), (7, 0), (9, 0), (13, 0), (15, 0), (2, 1), (4, 0), (5, 0), (6, 1), (8, 1), (10, 0), (11, 0), (12, 1), (14, 1), (16, 0), (17, 0), (18, 1), (19, 4), (20, 3), (21, 0)] ?_ ?_); (focus kernel_rfl); conv => whnf)
        | ((with_reducible refine CN.new (fun M => Tryz.numRow _ _ _ _) (fun _ _ _ _ => ?_)); conv => whnf)
        | ((with_reducible refine (?_ : Sm _ (Builtin.append_ _ _ _) _ _)); (((with_reducible apply (Sm.appAt (E := numE) (et := 89) Tryz.tysOk 2)); (focus rfl)); ((focus rfl); (focus ((repeat ((refine Rd.own 0 rfl ?_); (assumption))); done))); (focus rfl); (focus rfl); (focus rfl); (focus rfl); (focus rfl); (focus rfl); (focus ((simp only [List.length_append, List.length_cons, List.length_nil]); omega)); (intro _ _ _ _); conv => whnf)))
      all_goals try (exfalso; omega)
      all_goals (rename_i a4 c4 hc4 had4; exact ⟨j + 1, (a4, c4, zs ++ [((C.ss.getD j slE.d).1, 1), ((C.ss.getD j slE.d).2.1, 2), ((C.ss.getD j slE.d).2.2, 2)]), by kernel_rfl, by (try dsimp only); (refine FEnt.ent ?_; (repeat (first | exact FEnt.rfl | (refine FEnt.at 0 rfl ?_; (try simp only [List.eraseIdx_cons_zero, List.eraseIdx_cons_succ, List.eraseIdx_zero, List.tail_cons])) | (refine FEnt.at 2 rfl ?_; (try simp only [List.eraseIdx_cons_zero, List.eraseIdx_cons_succ, List.eraseIdx_zero, List.tail_cons])) | refine FEnt.drop ?_)); done), ⟨by omega, hsn, hc4, had4⟩, by omega⟩)
    · have e2 : j = C.ss.length := by omega
      have hsn := nuC_0 C
      rw [show nuB C C.ss.length = zs by rw [m2, e2]] at hsn
      clear m2
      conv => whnf
      repeat' (first
        | ((with_reducible refine Br.df ?_ ?_); (focus (first | assumption | omega)); conv => whnf)
        | ((with_reducible refine Nc.go' (fun _ => ?_)); conv => whnf)
        | (refine Ld.at 0 rfl rfl ?_; conv => whnf)
        | ((with_reducible refine (?_ : Sm _ (Builtin.append_ _ _ _) _ _)); (((with_reducible apply (Sm.appAt (E := numE) (et := 89) Tryz.tysOk 2)); (focus rfl)); (rotate_left; (focus (exact Rd.ptc 0 rfl [(_, _)] rfl)); rotate_right; (focus rfl)); (focus rfl); (focus rfl); (focus rfl); (focus rfl); (focus rfl); (focus rfl); (focus ((simp only [List.length_append, List.length_cons, List.length_nil]); omega)); (intro _ _ _ _); conv => whnf)))
      all_goals try (exfalso; omega)
      rename_i a7 c7 hc7 had7
      conv => whnf
      refine Lp.by2 Tryz.tysOk [6, 3] (fun (i : Nat) (x : Option Addr × Nat × List (Int × Int)) => [.int .i64 i, .slice x.1 x.2.2.length x.2.1]) (fun i x => ptc b1 28 (cfC C) :: own numE 89 x.1 x.2.1 x.2.2 :: L) (fun i x => i ≤ C.xs.length ∧ x.2.2 = nuC C i ∧ x.2.2.length ≤ x.2.1 ∧ Ad x.1 x.2.2.length) (fun i x => C.xs.length - i) (0) (((a7, c7, zs ++ [((C.xs.length : Int), 1)]) : Option Addr × Nat × List (Int × Int))) (by kernel_rfl) (by (refine FEnt.ent ?_; (repeat (first | exact FEnt.rfl | (refine FEnt.at 0 rfl ?_; (try simp only [List.eraseIdx_cons_zero, List.eraseIdx_cons_succ, List.eraseIdx_zero, List.tail_cons])) | (refine FEnt.at 2 rfl ?_; (try simp only [List.eraseIdx_cons_zero, List.eraseIdx_cons_succ, List.eraseIdx_zero, List.tail_cons])) | refine FEnt.drop ?_)); done)) (⟨by omega, hsn, hc7, had7⟩) ?_
      rintro i ⟨a8, c8, us⟩ ⟨n1, n2, n3, n4⟩
      conv => whnf
      repeat (intro _; conv => whnf)
      dsimp only at n2 n3 n4
      have hul : us.length = 6 + 3 * C.ws.length + 3 * C.ss.length + 10 * i := by rw [n2, nuC_len]
      clear hsn
      by_cases hi : i < C.xs.length
      · have hsn := nuC_succ C i
        rw [← n2] at hsn
        clear n2
        conv => whnf
        repeat' (first
          | ((with_reducible refine Br.dt ?_ ?_); (focus (first | assumption | omega)); conv => whnf)
          | ((with_reducible refine Ar.i64 ?_ ?_); (focus omega); conv => whnf)
          | ((with_reducible refine Nd.mk ?_ ?_); (focus (first | omega | rfl | assumption | (simp; done))); conv => whnf)
          | ((with_reducible refine Nc.go' (fun _ => ?_)); conv => whnf)
          | ((with_reducible refine Ix.ad ?_ ?_ ?_); (focus (exact Rd.ad (by assumption))); (focus (omega)); conv => whnf)
          | (refine Ld.at 0 rfl rfl ?_; conv => whnf)
          | ((with_reducible apply LdN.rdk); (focus ((repeat (first | assumption | apply Rd.cons)); done)); (focus rfl); (focus rfl); (focus (omega)); conv => whnf)
          | (refine St.at 0 rfl (by first | exact Nat.le_of_ble_eq_true rfl | (simp; done)) rfl ?_; conv => whnf)
          | ((with_reducible refine (?_ : Sm _ (Builtin.append_ _ _ _) _ _)); (((with_reducible apply (Sm.appAt (E := numE) (et := 89) Tryz.tysOk 3)); (focus rfl)); (rotate_left; (focus (exact Rd.ptc 0 rfl [(_, _), (_, _), (_, _), (_, _), (_, _), (_, _), (_, _), (_, _), (_, _), (_, _)] rfl)); rotate_right; (focus rfl)); (focus rfl); (focus rfl); (focus rfl); (focus rfl); (focus rfl); (focus rfl); (focus ((simp only [List.length_append, List.length_cons, List.length_nil]); omega)); (intro _ _ _ _); conv => whnf)))
        all_goals try (exfalso; omega)
        all_goals (rename_i a4 c4 hc4 had4; exact ⟨i + 1, (a4, c4, us ++ [((C.xs.getD i clE.d).b, 2), ((C.xs.getD i clE.d).z, 2), ((C.xs.getD i clE.d).r, 1), ((C.xs.getD i clE.d).t, 2), ((C.xs.getD i clE.d).q, 1), ((C.xs.getD i clE.d).u, 1), ((C.xs.getD i clE.d).m, 1), ((C.xs.getD i clE.d).h, 1), ((C.xs.getD i clE.d).f, 2), ((C.xs.getD i clE.d).s, 1)]), by kernel_rfl, by (try dsimp only); (refine FEnt.ent ?_; (repeat (first | exact FEnt.rfl | (refine FEnt.at 0 rfl ?_; (try simp only [List.eraseIdx_cons_zero, List.eraseIdx_cons_succ, List.eraseIdx_zero, List.tail_cons])) | (refine FEnt.at 3 rfl ?_; (try simp only [List.eraseIdx_cons_zero, List.eraseIdx_cons_succ, List.eraseIdx_zero, List.tail_cons])) | refine FEnt.drop ?_)); done), ⟨by omega, hsn, hc4, had4⟩, by omega⟩)
      · have e3 : i = C.xs.length := by omega
        rw [e3] at n2
        rw [← n2]
        clear n2
        conv => whnf
        repeat' (first
          | ((with_reducible refine Br.df ?_ ?_); (focus (first | assumption | omega)); conv => whnf)
          | (refine Ld.at 0 rfl rfl ?_; conv => whnf))
        all_goals try (exfalso; omega)
        all_goals exact New.of rfl n3 n4 (by (refine FEnt.ent ?_; (repeat (first | exact FEnt.rfl | (refine FEnt.at 1 rfl ?_; (try simp only [List.eraseIdx_cons_zero, List.eraseIdx_cons_succ, List.eraseIdx_zero, List.tail_cons])) | refine FEnt.drop ?_)); done))
end Go.Proofs
set_option linter.all false
namespace Go.Proofs
open Go.Eng
set_option linter.unusedVariables false
set_option maxRecDepth 100000
set_option maxHeartbeats 8000000
theorem nuC_eq {C D : Cfg} (h1 : C.F = D.F) (h2 : C.ws = D.ws) (h3 : C.ss = D.ss) (h4 : C.xs = D.xs) (k : Nat) : nuC C k = nuC D k := by
  unfold nuC nuB nuA
  rw [h1, h2, h3, h4]
theorem Tryz.cfgSame (C D : Cfg) (L : List HP) (e1 : C.F = D.F) (e2 : C.ws = D.ws) (e3 : C.ss = D.ss) (e4 : C.xs = D.xs) (hl : C.ws.length ≤ 300 ∧ C.ss.length ≤ 300 ∧ C.xs.length ≤ 300) (hw : Rd slE L C.wa C.ws) (hs : Rd slE L C.sa C.ss) (hc : Rd clE L C.ca C.xs)
    (kw : Rd slE L D.wa D.ws) (ks : Rd slE L D.sa D.ss) (kc : Rd clE L D.ca D.xs) :
    Con Tryz.prog 10 [cfV C, cfV D] L (Is (.bool true) L) := by
  have w1 := congrArg List.length e2
  have w2 := congrArg List.length e3
  have w3 := congrArg List.length e4
  have hn := fun L hw hs hc => Tryz.numAll C L hl hw hs hc
  have kn := fun L hw hs hc => Tryz.numAll D L (by omega) hw hs hc
  rw [← e4, ← nuC_eq e1 e2 e3 e4] at kn
  rw [← e4] at kc
  obtain ⟨l1, l2, l3⟩ := hl
  have hxl : (nuC C C.xs.length).length ≤ 10000 := by rw [nuC_len]; omega
  generalize nuC C C.xs.length = xs at *
  refine con_of Tryz.tysOk Tryz.func10 rfl rfl ?_
  conv => whnf
  repeat' (first
    | (first | ((with_reducible refine Br.ff ?_); conv => whnf) | ((with_reducible refine Br.ndf ?_ ?_); (focus (first | assumption | omega)); conv => whnf))
    | ((with_reducible refine Nc.go' (fun _ => ?_)); conv => whnf)
    | (first | (refine Ld.at 2 rfl rfl ?_; conv => whnf) | (refine Ld.at 3 rfl rfl ?_; conv => whnf))
    | (first | (refine LdN.at 0 rfl (by first | exact Nat.le_of_ble_eq_true rfl | (simp; done)) ?_; conv => whnf) | (refine LdN.at 1 rfl (by first | exact Nat.le_of_ble_eq_true rfl | (simp; done)) ?_; conv => whnf))
    | ((with_reducible refine Dr.by (id := 1) Tryz.tysOk rfl [(0, 1), (2, 1), (1, 4), (3, 4), (4, 0), (5, 0)] ?_ ?_); (focus kernel_rfl); conv => whnf)
    | (first | ((with_reducible refine CN.new (fun M => hn _ (by ((repeat (first | assumption | apply Rd.cons | apply Rd.app)); done)) (by ((repeat (first | assumption | apply Rd.cons | apply Rd.app)); done)) (by ((repeat (first | assumption | apply Rd.cons | apply Rd.app)); done))) (fun _ _ _ _ => ?_)); conv => whnf) | ((with_reducible refine CN.new (fun M => kn _ (by ((repeat (first | assumption | apply Rd.cons | apply Rd.app)); done)) (by ((repeat (first | assumption | apply Rd.cons | apply Rd.app)); done)) (by ((repeat (first | assumption | apply Rd.cons | apply Rd.app)); done))) (fun _ _ _ _ => ?_)); conv => whnf)))
  all_goals try (exfalso; omega)
  rename_i na nc hnc hna ma mc hmc hma
  conv => whnf
  refine Lp.by Tryz.tysOk [7] (fun (k : Nat) => [.int .i64 k]) (fun k => own numE 89 ma mc xs :: own numE 89 na nc xs :: L) (fun k => k ≤ xs.length) (fun k => xs.length - k) (0) (by kernel_rfl) (by (refine FEnt.ent ?_; (repeat (first | exact FEnt.rfl | (refine FEnt.at 0 rfl ?_; (try simp only [List.eraseIdx_cons_zero, List.eraseIdx_cons_succ, List.eraseIdx_zero, List.tail_cons])) | refine FEnt.drop ?_)); done)) ((by omega)) ?_
  rintro k h1
  conv => whnf
  repeat (intro _; conv => whnf)
  by_cases hk : k < xs.length
  · conv => whnf
    repeat' (first
      | (first | ((with_reducible refine Br.dt ?_ ?_); (focus (first | assumption | omega)); conv => whnf) | ((with_reducible refine Br.ndf ?_ ?_); (focus (first | assumption | omega)); conv => whnf))
      | ((with_reducible refine Ar.i64 ?_ ?_); (focus omega); conv => whnf)
      | ((with_reducible refine Nd.mk ?_ ?_); (focus (first | omega | rfl | assumption | (simp; done))); conv => whnf)
      | ((with_reducible refine Ix.ad ?_ ?_ ?_); (focus (assumption)); (focus (omega)); conv => whnf)
      | ((with_reducible apply LdN.rdk); (focus ((repeat ((first | refine Rd.own 0 rfl ?_ | refine Rd.own 1 rfl ?_); (assumption))); done)); (focus rfl); (focus rfl); (focus (omega)); conv => whnf)
      | ((with_reducible refine Dr.by (id := 7) Tryz.tysOk rfl [(0, 0), (1, 0), (2, 0), (4, 0), (5, 0), (6, 0), (3, 1), (7, 1), (8, 0)] ?_ ?_); (focus kernel_rfl); conv => whnf))
    all_goals try (exfalso; omega)
    all_goals exact ⟨k + 1, by kernel_rfl, by (exact Ent.rfl), by omega, by omega⟩
  · conv => whnf
    repeat' ((with_reducible refine Br.df ?_ ?_); (focus (first | assumption | omega)); conv => whnf)
    all_goals first | (exfalso; omega) | (refine Is.ent ?_ ?_; (focus (refine FEnt.ent ?_; (repeat (first | exact FEnt.rfl | refine FEnt.drop ?_)); done)); (exact Is.rfl))
end Go.Proofs
