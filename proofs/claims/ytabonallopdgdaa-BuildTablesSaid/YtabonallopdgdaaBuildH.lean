/- Tables of wishes: the statement. -/
import Derived.Test.YtabonallopdgdaaBuildF
import Derived.Test.YtabonallopdgdaaBuildG
import Derived.Test.YtabonallopdgdaaBuildR
import Derived.Test.YtabonallopdgdaaBuildC
import Derived.Test.YtabonallopdgdaaConfG
set_option linter.all false
namespace Go.Proofs
open Go.Eng
open Classical
set_option linter.unusedVariables false
set_option maxRecDepth 100000
set_option maxHeartbeats 2000000
theorem right_b {C : Cfg} (h : Right C) (wc : C.ws.length ≤ C.wc) (sc : C.ss.length ≤ C.sc) (cc : C.xs.length ≤ C.cc) : CfB C := by
  have hf := h.f
  refine ⟨⟨by omega, by omega⟩, fun x hx => ?_, fun x hx => ?_, fun x hx => ?_, wc, sc, cc⟩
  · obtain ⟨i, hi, rfl⟩ := List.getElem_of_mem hx
    have hg : goodW C (cW C i) := Classical.byContradiction fun hn => h.r4 i hi hn
    rw [show cW C i = C.ws[i] from by simp [cW, List.getD, hi]] at hg
    obtain ⟨⟨a1, a2⟩, ⟨a3, a4⟩, a5⟩ := hg
    exact ⟨⟨by omega, by omega⟩, ⟨by omega, by omega⟩, ⟨by omega, by omega⟩⟩
  · obtain ⟨i, hi, rfl⟩ := List.getElem_of_mem hx
    have hg : goodS C (cS C i) := Classical.byContradiction fun hn => h.r8 i hi hn
    rw [show cS C i = C.ss[i] from by simp [cS, List.getD, hi]] at hg
    obtain ⟨⟨a1, a2⟩, ⟨⟨a3, a4⟩, a5⟩, _⟩ := hg
    exact ⟨⟨by omega, by omega⟩, ⟨by omega, by omega⟩, ⟨by omega, by omega⟩⟩
  · obtain ⟨i, hi, rfl⟩ := List.getElem_of_mem hx
    have hg : goodC (cX C i) := Classical.byContradiction fun hn => h.r2 i hi hn
    rw [show cX C i = C.xs[i] from by simp [cX, List.getD, hi]] at hg
    obtain ⟨⟨a1, a2, a3, a4⟩, ⟨a5, a6, a7⟩, ⟨a8, a9, a10, a11⟩, ⟨a12, a13, a14, a15⟩, a16, a17, a18, a19⟩ := hg
    have hk : ringK C.xs[i].r := Classical.byContradiction fun hn => a5 (by unfold ringN; rw [if_neg hn])
    have hR := ringN_bd C.xs[i].r
    exact ⟨⟨by omega, by omega⟩, ⟨by omega, by omega⟩, ⟨by omega, by omega⟩, ⟨by omega, by omega⟩, ⟨by omega, by omega⟩, ⟨by omega, by omega⟩, ⟨by omega, by omega⟩, ⟨by omega, by omega⟩, ⟨by omega, by omega⟩, ⟨by omega, by omega⟩⟩
theorem Try.bldTabNo (a : Option Addr) (c : Nat) (xs : List Wsh) (n e : Int) (L : List HP) (hx : xs.length ≤ 1000) (h : NoT xs n e) (hr : Rd wsE L a xs) :
    Con Try.prog 9 [.slice a xs.length c] L (Is (.tuple #[cfV0, n64 n, n64 e]) L) := by
  cases h with
  | len h => exact Try.bldTabLen a c xs L hx h
  | may h i hi hp hb => exact Try.bldTabMay a c xs i L h hi hp hb hr
  | full h hm k hk hp hb => exact Try.bldTabFull a c xs k L h hm hk hp hb hr
theorem noT_e {xs : List Wsh} {n e : Int} (h : NoT xs n e) : e = 4 ∨ e = 2 ∨ e = 8 := by
  cases h with
  | len _ => exact .inl rfl
  | may _ _ _ _ _ => exact .inr (.inl rfl)
  | full _ _ _ _ _ _ => exact .inr (.inr rfl)
abbrev ws12 (xs : List Wsh) : List Wsh := List.take (min (xs.length : Int) 12).toNat xs
theorem ws12_len (xs : List Wsh) : (ws12 xs).length ≤ 12 := by unfold ws12; rw [List.length_take]; omega
theorem Try.buildTablesLaw (a : Option Addr) (c : Nat) (xs : List Wsh) (L : List HP) (hc : xs.length ≤ c) (hm : c ≤ 9223372036854775807) (hr : Rd wsE L a xs) :
    Con Try.prog 3 [.slice a xs.length c] L (Is (.bool true) L) := by
  have h12 := ws12_len xs
  have hr2 : Rd wsE L a (ws12 xs) := hr.take _
  have hor := tab_or (ws12 xs)
  simp only [ws12] at *
  refine con_of Try.tysOk Try.func3 rfl rfl ?_
  conv => whnf
  repeat' (first
    | ((with_reducible refine Nc.go' (fun _ => ?_)); conv => whnf)
    | ((with_reducible refine Sub.pre ?_ rfl ?_ ?_ ?_); (focus (first | exact Or.inl rfl | exact Or.inr ⟨_, rfl⟩)); (focus (omega)); (focus (omega)); conv => whnf))
  rename_i b3
  generalize List.take (min (xs.length : Int) 12).toNat xs = ys at *
  conv => whnf
  refine Lp.by3 Try.tysOk [4, 3] (fun (k : Nat) (ms : List Wsh) (x : Option Addr × Nat) => [.int .i64 k, .slice x.1 ms.length x.2]) (fun k ms x => own wsE 25 x.1 x.2 ms :: L) (fun k ms x => k ≤ ys.length ∧ ms = ys.take k ∧ ms.length ≤ x.2 ∧ Ad x.1 ms.length) (fun k ms x => ys.length - k) (0) (([] : List Wsh)) (((some ⟨b3, 0, none⟩, 0) : Option Addr × Nat)) (by kernel_rfl) (by (refine FEnt.ent ?_; (repeat (first | exact FEnt.rfl | (refine FEnt.own0 0 rfl ?_; (try simp only [List.eraseIdx_cons_zero, List.eraseIdx_cons_succ, List.eraseIdx_zero, List.tail_cons])))); done)) (⟨by omega, rfl, Nat.le_refl _, fun _ => rfl⟩) ?_
  rintro k ms ⟨a2, c2⟩ ⟨g1, g2, g3, g4⟩
  conv => whnf
  repeat (intro _; conv => whnf)
  dsimp only at g3 g4
  by_cases hk : k < ys.length
  · have hml : ms.length = k := by rw [g2, List.length_take]; omega
    have hsn : ms ++ [ys.getD k wsE.d] = ys.take (k + 1) := by
      rw [g2, List.take_add_one, List.getElem?_eq_getElem hk]
      simp [List.getD, hk]
    have eg : (ms ++ [ys.getD k wsE.d]).getD k wsE.d = ys.getD k wsE.d := by
      simp [List.getD, ← hml]
    have hm2 : ∀ L, Con Try.prog 8 [wsV ((ms ++ [ys.getD k wsE.d]).getD k wsE.d)] L (Is (.bool (decide (mayW (ys.getD k wsE.d)))) L) := fun L => by
      rw [eg]; exact Try.refMay _ L
    have hm1 := fun L => Try.bldMay (ys.getD k wsE.d) L
    by_cases hw : mayW (ys.getD k wsE.d)
    · conv => whnf
      repeat' (first
        | (first | ((with_reducible refine Br.dt ?_ ?_); (focus (first | assumption | omega)); conv => whnf) | ((with_reducible refine Br.nef ?_ ?_); (focus (first | rfl | assumption)); conv => whnf))
        | ((with_reducible refine Ar.i64 ?_ ?_); (focus omega); conv => whnf)
        | ((with_reducible refine Nc.go' (fun _ => ?_)); conv => whnf)
        | ((with_reducible refine Ix.ad ?_ ?_ ?_); (focus (first | assumption | exact Rd.ad (by assumption))); (focus (first | omega | ((simp only [List.length_append, List.length_cons, List.length_nil]); omega))); conv => whnf)
        | ((with_reducible apply LdN.rdk); (focus ((repeat (first | assumption | ((refine Rd.own 0 rfl ?_); (assumption)) | apply Rd.cons)); done)); (focus rfl); (focus rfl); (focus (first | omega | ((simp only [List.length_append, List.length_cons, List.length_nil]); omega))); conv => whnf)
        | ((with_reducible refine Dr.by (id := 7) Try.tysOk rfl [(0, 0), (1, 0), (2, 0), (5, 0), (6, 0), (7, 0), (3, 1), (4, 1), (8, 1), (9, 1), (10, 0)] ?_ ?_); (focus kernel_rfl); conv => whnf)
        | (first | ((with_reducible refine CD.is (fun M => Con.dt hw (hm1 _)) ?_); conv => whnf) | ((with_reducible refine CD.is (fun M => Con.dt hw (hm2 _)) ?_); conv => whnf))
        | ((with_reducible refine Cl.is (Try.bldRef _ _) ?_); conv => whnf)
        | ((with_reducible refine (?_ : Sm _ (Builtin.append_ _ _ _) _ _)); (((with_reducible apply (Sm.appAt (E := wsE) (et := 25) Try.tysOk 1)); (focus rfl)); (rotate_left; (focus (exact Rd.ptc 0 rfl [_] rfl)); rotate_right; (focus rfl)); (focus rfl); (focus rfl); (focus rfl); (focus rfl); (focus rfl); (focus rfl); (focus ((simp only [List.length_append, List.length_cons, List.length_nil]); omega)); (intro _ _ _ _); conv => whnf)))
      all_goals (rename_i a5 c5 hc5 had5; exact ⟨k + 1, ms ++ [ys.getD k wsE.d], (a5, c5), by kernel_rfl, by (refine FEnt.ent ?_; (repeat (first | exact FEnt.rfl | (refine FEnt.at 0 rfl ?_; (try simp only [List.eraseIdx_cons_zero, List.eraseIdx_cons_succ, List.eraseIdx_zero, List.tail_cons])) | refine FEnt.drop ?_)); done), ⟨by omega, hsn, hc5, had5⟩, by omega⟩)
    · conv => whnf
      repeat' (first
        | (first | ((with_reducible refine Br.dt ?_ ?_); (focus (first | assumption | omega)); conv => whnf) | ((with_reducible refine Br.nef ?_ ?_); (focus (first | rfl | assumption)); conv => whnf))
        | ((with_reducible refine Ar.i64 ?_ ?_); (focus omega); conv => whnf)
        | ((with_reducible refine Nc.go' (fun _ => ?_)); conv => whnf)
        | ((with_reducible refine Ix.ad ?_ ?_ ?_); (focus (first | assumption | exact Rd.ad (by assumption))); (focus (first | omega | ((simp only [List.length_append, List.length_cons, List.length_nil]); omega))); conv => whnf)
        | ((with_reducible apply LdN.rdk); (focus ((repeat (first | assumption | ((refine Rd.own 0 rfl ?_); (assumption)) | apply Rd.cons)); done)); (focus rfl); (focus rfl); (focus (first | omega | ((simp only [List.length_append, List.length_cons, List.length_nil]); omega))); conv => whnf)
        | ((with_reducible refine Dr.by (id := 7) Try.tysOk rfl [(0, 0), (1, 0), (2, 0), (5, 0), (6, 0), (7, 0), (3, 1), (4, 1), (8, 1), (9, 1), (10, 0)] ?_ ?_); (focus kernel_rfl); conv => whnf)
        | (first | ((with_reducible refine CD.is (fun M => Con.df hw (hm1 _)) ?_); conv => whnf) | ((with_reducible refine CD.is (fun M => Con.df hw (hm2 _)) ?_); conv => whnf))
        | ((with_reducible refine Cl.is (Try.bldRef _ _) ?_); conv => whnf)
        | ((with_reducible refine (?_ : Sm _ (Builtin.append_ _ _ _) _ _)); (((with_reducible apply (Sm.appAt (E := wsE) (et := 25) Try.tysOk 1)); (focus rfl)); (rotate_left; (focus (exact Rd.ptc 0 rfl [_] rfl)); rotate_right; (focus rfl)); (focus rfl); (focus rfl); (focus rfl); (focus rfl); (focus rfl); (focus rfl); (focus ((simp only [List.length_append, List.length_cons, List.length_nil]); omega)); (intro _ _ _ _); conv => whnf)))
      all_goals (rename_i a5 c5 hc5 had5; exact ⟨k + 1, ms ++ [ys.getD k wsE.d], (a5, c5), by kernel_rfl, by (refine FEnt.ent ?_; (repeat (first | exact FEnt.rfl | (refine FEnt.at 0 rfl ?_; (try simp only [List.eraseIdx_cons_zero, List.eraseIdx_cons_succ, List.eraseIdx_zero, List.tail_cons])) | refine FEnt.drop ?_)); done), ⟨by omega, hsn, hc5, had5⟩, by omega⟩)
  · have e : k = ys.length := by omega
    subst e
    rw [List.take_length] at g2
    subst g2
    rcases hor with h | ⟨n, e, h⟩
    · have t1 := fun L h' => Try.bldTables a c ms L h h'
      have t2 := fun a c L h' => Try.refTables a c ms L h h'
      have hR : ∀ wa sa ca wc sc cc, Right ⟨frT ms ms.length, wa, wc, winT ms ms.length, sa, sc, sloT ms ms.length, ca, cc, cliT ms ms.length⟩ := fun wa sa ca wc sc cc => tab_right h wa sa ca wc sc cc
      have l1 := winT_len ms
      have l2 := sloT_len ms
      have l3 := cliT_len ms
      generalize frT ms ms.length = F at *
      generalize winT ms ms.length = W at *
      generalize sloT ms ms.length = S at *
      generalize cliT ms ms.length = X at *
      conv => whnf
      repeat' (first
        | (first | ((with_reducible refine Br.tt ?_); conv => whnf) | ((with_reducible refine Br.ff ?_); conv => whnf) | ((with_reducible refine Br.nt ?_); conv => whnf) | ((with_reducible refine Br.df ?_ ?_); (focus (first | assumption | omega)); conv => whnf) | ((with_reducible refine Br.ndf ?_ ?_); (focus (first | assumption | omega)); conv => whnf))
        | ((with_reducible refine Nd.mk ?_ ?_); (focus (first | omega | rfl | assumption | (simp; done))); conv => whnf)
        | ((with_reducible refine Nc.go' (fun _ => ?_)); conv => whnf)
        | (first | (refine LdN.at 0 rfl (by first | exact Nat.le_of_ble_eq_true rfl | (simp; done)) ?_; conv => whnf) | (refine LdN.at 4 rfl (by first | exact Nat.le_of_ble_eq_true rfl | (simp; done)) ?_; conv => whnf))
        | (refine St.at 0 rfl (by first | exact Nat.le_of_ble_eq_true rfl | (simp; done)) rfl ?_; conv => whnf)
        | (first | ((with_reducible refine (?_ : Cl _ 9 _ _ _ _)); (refine Cl.exs (t1 _ (by ((repeat (first | assumption | apply Rd.cons)); done))) ?_; rintro ⟨⟨wa, wc⟩, ⟨sa, sc⟩, ⟨ca, cc⟩⟩ ⟨⟨p1, p2⟩, ⟨p3, p4⟩, ⟨p5, p6⟩⟩); conv => whnf) | ((with_reducible refine (?_ : Cl _ 10 _ _ _ _)); (refine Cl.exs (t2 _ _ _ (by ((repeat ((refine Rd.own 4 rfl ?_); (assumption))); done))) ?_; rintro ⟨⟨wa', wc'⟩, ⟨sa', sc'⟩, ⟨ca', cc'⟩⟩ ⟨⟨q1, q2⟩, ⟨q3, q4⟩, ⟨q5, q6⟩⟩; dsimp only at p1 p2 p3 p4 p5 p6 q1 q2 q3 q4 q5 q6); conv => whnf) | ((with_reducible refine (?_ : Cl _ 11 _ _ _ _)); (refine Cl.is (Try.refSame ⟨F, wa, wc, W, sa, sc, S, ca, cc, X⟩ wa' sa' ca' wc' sc' cc' _ (by dsimp only; omega) (by dsimp only; omega) (by dsimp only; omega) (by dsimp only; ((repeat ((refine Rd.own 5 rfl ?_); (assumption))); done)) (by dsimp only; ((repeat ((refine Rd.own 6 rfl ?_); (assumption))); done)) (by dsimp only; ((repeat (first | ((refine Rd.own 6 rfl ?_); (assumption)) | apply Rd.cons)); done)) (by dsimp only; ((repeat ((refine Rd.own 1 rfl ?_); (assumption))); done)) (by dsimp only; ((repeat ((refine Rd.own 2 rfl ?_); (assumption))); done)) (by dsimp only; ((repeat ((refine Rd.own 3 rfl ?_); (assumption))); done))) ?_); conv => whnf) | ((with_reducible refine Cl.is (Try.bldLive _) ?_); conv => whnf) | ((with_reducible refine (?_ : Cl _ 13 _ _ _ _)); (refine Cl.exs (Try.refFaults ⟨F, wa, wc, W, sa, sc, S, ca, cc, X⟩ _ (right_b (hR wa sa ca wc sc cc) p1 p3 p5) (by dsimp only; ((repeat ((refine Rd.own 5 rfl ?_); (assumption))); done)) (by dsimp only; ((repeat ((refine Rd.own 6 rfl ?_); (assumption))); done)) (by dsimp only; ((repeat (first | ((refine Rd.own 6 rfl ?_); (assumption)) | apply Rd.cons)); done))) ?_; rintro y2 ⟨hl2, he2⟩; have hz2 : y2.2.2.length = 0 := by rw [he2.2 (hR wa sa ca wc sc cc)]; rfl); conv => whnf)))
      all_goals first | (refine Is.ent ?_ ?_; (focus (refine FEnt.ent ?_; (repeat (first | exact FEnt.rfl | refine FEnt.drop ?_)); done)); (exact Is.ttr (by first | assumption | omega))) | (exfalso; omega)
    · have t1 := fun L h' => Try.bldTabNo a c ms n e L (by omega) h h'
      have t2 := fun a c L h' => Try.refTabNo a c ms n e L (by omega) h h'
      have he := noT_e h
      clear h
      conv => whnf
      repeat' (first
        | (first | ((with_reducible refine Br.tt ?_); conv => whnf) | ((with_reducible refine Br.ff ?_); conv => whnf) | ((with_reducible refine Br.nt ?_); conv => whnf) | ((with_reducible refine Br.df ?_ ?_); (focus (first | assumption | omega)); conv => whnf) | ((with_reducible refine Br.ndt ?_ ?_); (focus (first | assumption | omega)); conv => whnf) | ((with_reducible refine Br.ndf ?_ ?_); (focus (first | assumption | omega)); conv => whnf))
        | ((with_reducible refine Nd.mk ?_ ?_); (focus (first | omega | rfl | assumption | (simp; done))); conv => whnf)
        | ((with_reducible refine Nc.go' (fun _ => ?_)); conv => whnf)
        | (first | (refine LdN.at 0 rfl (by first | exact Nat.le_of_ble_eq_true rfl | (simp; done)) ?_; conv => whnf) | (refine LdN.at 1 rfl (by first | exact Nat.le_of_ble_eq_true rfl | (simp; done)) ?_; conv => whnf))
        | (refine St.at 0 rfl (by first | exact Nat.le_of_ble_eq_true rfl | (simp; done)) rfl ?_; conv => whnf)
        | (first | ((with_reducible refine Cl.is (t1 _ (by ((repeat (first | assumption | apply Rd.cons)); done))) ?_); conv => whnf) | ((with_reducible refine Cl.is (t2 _ _ _ (by ((repeat ((refine Rd.own 1 rfl ?_); (assumption))); done))) ?_); conv => whnf) | ((with_reducible refine (?_ : Cl _ 11 _ _ _ _)); (refine Cl.is (Try.refSame ⟨0, none, 0, [], none, 0, [], none, 0, []⟩ none none none 0 0 0 _ (by decide) (by decide) (by decide) Rd.nil Rd.nil Rd.nil Rd.nil Rd.nil Rd.nil) ?_); conv => whnf) | ((with_reducible refine Cl.is (Try.bldLive _) ?_); conv => whnf)))
      all_goals first | (refine Is.ent ?_ ?_; (focus (refine FEnt.ent ?_; (repeat (first | exact FEnt.rfl | refine FEnt.drop ?_)); done)); (exact Is.rfl)) | (exfalso; omega)
end Go.Proofs
