/- The law TopAccepts: a contract. -/
import Derived.Test.YtdjpcfaidgofoaaGreatTopZ
import Derived.Test.YtdjpcfaidgofoaaGreatTopIm
import Derived.Test.YtdjpcfaidgofoaaGreatTopSm
set_option linter.all false
namespace Go.Proofs
open Go.Eng
set_option linter.unusedVariables false
set_option maxRecDepth 100000
set_option maxHeartbeats 8000000
/-- a tick's events, as a slice -/
def evE : Enc (Option Addr × Nat × Nat) := ⟨1, fun x => [.slice x.1 x.2.1 x.2.2], (none, 0, 0), fun _ => rfl, by omega, fun _ => rfl⟩
theorem Tryz.bootOne (L : List HP) : Con Tryz.prog 9 [.string img0, .slice none 0 0] L (Exs (fun w : Mw => .tuple #[pV w.bx, .slice none 0 0, n64 0]) (fun w => Tryz.mwP w 0 mq0 none 0 [] L) (fun w => isC0 w.C)) := by
  refine (Tryz.mchBoot img0 L (by rw [img0_size]; decide) img0_boot).mono (fun v L' h => ?_) (fun _ _ h => h)
  obtain ⟨z, hz, rfl, he⟩ := h.go
  obtain ⟨w, hb, hC, hent⟩ := Tryz.mz_ent hz (img0_tb hz.tb)
  exact Exs.of w (he.trans (hent L)) hC (by rw [hb])
theorem Tryz.stp0 (w : Mw) (h : isC0 w.C) (L : List HP) : Con Tryz.prog 38 [pV w.bx, .slice none 0 0] (Tryz.mwP w 0 mq0 none 0 [] L) (Is (n64 0) (Tryz.mwP w 1 mq0 none 0 [] L)) :=
  Tryz.mchIdle w.C w.bx w.bm w.bs w.bl w.bp w.ba w.bd w.bu w.mu w.l w.f w.bn w.mn w.p w.g w.bk w.be w.d0 w.R w.y 0 w.P w.pp mq0 none 0 [] L h (by omega) (fun L => Tryz.srvTick0 w.C w.bs w.bp w.bm w.bd w.ba w.d0 w.R w.y L h)
theorem Tryz.stp1 (w : Mw) (h : isC0 w.C) (L : List HP) : Con Tryz.prog 38 [pV w.bx, .slice none 0 0] (Tryz.mwP w 1 mq0 none 0 [] L) (Is (n64 0) (Tryz.mwP w 2 mq0 none 0 [] L)) :=
  Tryz.mchIdle w.C w.bx w.bm w.bs w.bl w.bp w.ba w.bd w.bu w.mu w.l w.f w.bn w.mn w.p w.g w.bk w.be w.d0 w.R w.y 1 w.P w.pp mq0 none 0 [] L h (by omega) (fun L => Tryz.srvTick1n w.C w.bs w.bp w.bm w.bd w.ba w.d0 w.R w.y L h)
theorem Tryz.stp2 (w : Mw) (h : isC0 w.C) (L : List HP) : Con Tryz.prog 38 [pV w.bx, .slice none 0 0] (Tryz.mwP w 2 mq0 none 0 [] L) (Is (n64 0) (Tryz.mwP w 3 mq0 none 0 [] L)) :=
  Tryz.mchIdle w.C w.bx w.bm w.bs w.bl w.bp w.ba w.bd w.bu w.mu w.l w.f w.bn w.mn w.p w.g w.bk w.be w.d0 w.R w.y 2 w.P w.pp mq0 none 0 [] L h (by omega) (fun L => Tryz.srvTickNo w.C w.bs w.bp w.bm w.bd w.ba w.d0 w.R w.y 2 L h (.inl rfl))
theorem Tryz.stp3 (w : Mw) (h : isC0 w.C) (L : List HP) : Con Tryz.prog 38 [pV w.bx, .slice none 0 0] (Tryz.mwP w 3 mq0 none 0 [] L) (Is (n64 0) (Tryz.mwP w 4 mq0 none 0 [] L)) :=
  Tryz.mchIdle w.C w.bx w.bm w.bs w.bl w.bp w.ba w.bd w.bu w.mu w.l w.f w.bn w.mn w.p w.g w.bk w.be w.d0 w.R w.y 3 w.P w.pp mq0 none 0 [] L h (by omega) (fun L => Tryz.srvTickNo w.C w.bs w.bp w.bm w.bd w.ba w.d0 w.R w.y 3 L h (.inr (.inl rfl)))
theorem Tryz.stp4 (w : Mw) (h : isC0 w.C) (L : List HP) : Con Tryz.prog 38 [pV w.bx, .slice none 0 0] (Tryz.mwP w 4 mq0 none 0 [] L) (Exs (fun _ : (Option Addr × Nat) × List Mk6 => n64 0) (fun z => Tryz.mwP w 5 mq1 z.1.1 z.1.2 z.2 L) (fun z => z.2.length = 2 ∧ z.2.length ≤ z.1.2 ∧ Ad z.1.1 z.2.length)) :=
  Tryz.mchStep4 w.C w.bx w.bm w.bs w.bl w.bp w.ba w.bd w.bu w.mu w.l w.f w.bn w.mn w.p w.g w.bk w.be w.d0 w.R w.y w.P w.pp L h
theorem Tryz.stp5 (w : Mw) (h : isC0 w.C) (ta : Option Addr) (tc : Nat) (ms : List Mk6) (L : List HP) (hn : ms.length = 2) (hc : ms.length ≤ tc) (had : Ad ta ms.length) :
    Con Tryz.prog 38 [pV w.bx, .slice none 0 0] (Tryz.mwP w 5 mq1 ta tc ms L) (Exs (fun _ : (Option Addr × Nat) × List Mk6 => n64 0) (fun z => Tryz.mwP w 6 mq1 z.1.1 z.1.2 z.2 L) (fun z => z.2.length = 2 ∧ z.2.length ≤ z.1.2 ∧ Ad z.1.1 z.2.length)) := by
  refine (Tryz.mchStep5 w.C w.bx w.bm w.bs w.bl w.bp w.ba w.bd w.bu w.mu w.l w.f w.bn w.mn w.p w.g w.bk w.be w.d0 w.R w.y w.P w.pp ta tc ms L h (by omega) hc had).mono (fun v L' hh => ?_) (fun _ _ h => h)
  obtain ⟨z, ⟨h1, h2⟩, rfl, he⟩ := hh.go
  exact Exs.of (z, ms ++ []) he ⟨by rw [List.append_nil]; exact hn, h1, h2⟩ rfl
theorem Tryz.mwRd {xs : List (Option Addr × Nat × Nat)} {ea : Option Addr} (w : Mw) (t : Int) (q : Mch) (ta : Option Addr) (tc : Nat) (ms : List Mk6) {L : List HP} (hr : Rd evE L ea xs) : Rd evE (Tryz.mwP w t q ta tc ms L) ea xs := by
  unfold Tryz.mwP Tryz.mcA Tryz.mcH
  iterate 10 (first | exact hr | apply Rd.cons)
abbrev ev6 : List (Option Addr × Nat × Nat) := [(none, 0, 0), (none, 0, 0), (none, 0, 0), (none, 0, 0), (none, 0, 0), (none, 0, 0)]
theorem ev6_get {i : Nat} (h : i < 6) : ev6.getD i (none, 0, 0) = (none, 0, 0) := by
  rcases (by omega : i = 0 ∨ i = 1 ∨ i = 2 ∨ i = 3 ∨ i = 4 ∨ i = 5) with rfl | rfl | rfl | rfl | rfl | rfl <;> rfl
theorem Tryz.evS {A : Value} {e : Option Addr × Nat × Nat} {L : List HP} {P : Value → List HP → Prop} (he : e = (none, 0, 0)) (h : Con Tryz.prog 38 [A, .slice none 0 0] L P) : Con Tryz.prog 38 [A, .slice e.1 e.2.1 e.2.2] L P := by subst he; exact h
theorem Tryz.mchRun6 (ta : Option Addr) (tc : Nat) (L : List HP) (hr : Rd evE L ta ev6) :
    Con Tryz.prog 13 [.agg #[.string img0, .slice none 0 0, .slice ta 6 tc]] L (Exs (fun y : Mw × (Option Addr × Nat) × List Mk6 => .tuple #[pV y.1.bx, .slice none 0 0, n64 0]) (fun y => Tryz.mwP y.1 6 mq1 y.2.1.1 y.2.1.2 y.2.2 L) (fun y => isC0 y.1.C ∧ y.2.2.length = 2 ∧ y.2.2.length ≤ y.2.1.2 ∧ Ad y.2.1.1 y.2.2.length)) := by
  have hbt := fun L => Tryz.bootOne L
  have hx : ev6.length = 6 := rfl
  have hg := @ev6_get
  generalize img0 = I at *
  generalize ev6 = xs at *
  refine con_of Tryz.tysOk Tryz.func13 rfl rfl ?_
  conv => whnf
  repeat' (first
    | ((with_reducible refine Br.ndf ?_ ?_); (focus (first | assumption | omega)); conv => whnf)
    | ((with_reducible refine Nd.mk ?_ ?_); (focus (first | omega | rfl | assumption | (simp; done))); conv => whnf)
    | ((with_reducible refine Nc.go' (fun _ => ?_)); conv => whnf)
    | (first | (refine Ld.at 0 rfl rfl ?_; conv => whnf) | (refine Ld.at 9 rfl rfl ?_; conv => whnf))
    | ((with_reducible refine (?_ : Cl _ 9 _ _ _ _)); (refine Cl.exs (hbt _) ?_; rintro w hw); conv => whnf))
  all_goals try (exfalso; omega)
  rename_i x0
  have h0 := fun L => Tryz.stp0 w hw L
  have h1 := fun L => Tryz.stp1 w hw L
  have h2 := fun L => Tryz.stp2 w hw L
  have h3 := fun L => Tryz.stp3 w hw L
  have h4 := fun L => Tryz.stp4 w hw L
  have h5 := fun ta tc ms L hn hc had => Tryz.stp5 w hw ta tc ms L hn hc had
  have hR := fun t q a c ms => Tryz.mwRd w t q a c ms (Rd.cons (A := ptc x0 53 [.string I, .slice none 0 0, .slice ta 6 tc]) hr)
  refine Lp.unr 7 (LpU.step Tryz.tysOk ?_)
  conv => whnf
  repeat' (first
    | (first | ((with_reducible refine Br.dt ?_ ?_); (focus (first | assumption | omega)); conv => whnf) | ((with_reducible refine Br.ndf ?_ ?_); (focus (first | assumption | omega)); conv => whnf))
    | ((with_reducible refine Ar.i64 ?_ ?_); (focus omega); conv => whnf)
    | ((with_reducible refine Ix.ad ?_ ?_ ?_); (focus (exact Ad.mono (Rd.ad (by assumption)) (by (omega)))); (focus (omega)); conv => whnf)
    | ((apply Ld.rd0); (focus ((repeat (first | assumption | apply Rd.cons)); done)); (focus rfl); (focus (omega)); (focus rfl); conv => whnf)
    | ((with_reducible refine (?_ : Cl _ 38 _ _ _ _)); (refine Cl.is (Tryz.evS (hg (by omega)) (h0 _)) ?_); conv => whnf))
  all_goals try (exfalso; omega)
  refine LpU.step Tryz.tysOk ?_
  conv => whnf
  repeat' (first
    | (first | ((with_reducible refine Br.dt ?_ ?_); (focus (first | assumption | omega)); conv => whnf) | ((with_reducible refine Br.ndf ?_ ?_); (focus (first | assumption | omega)); conv => whnf))
    | ((with_reducible refine Ar.i64 ?_ ?_); (focus omega); conv => whnf)
    | ((with_reducible refine Ix.ad ?_ ?_ ?_); (focus (exact Ad.mono (Rd.ad (by assumption)) (by (omega)))); (focus (omega)); conv => whnf)
    | ((apply Ld.rd0); (focus ((repeat (first | assumption | apply Rd.cons)); done)); (focus rfl); (focus (omega)); (focus rfl); conv => whnf)
    | ((with_reducible refine (?_ : Cl _ 38 _ _ _ _)); (refine Cl.is (Tryz.evS (hg (by omega)) (h1 _)) ?_); conv => whnf))
  all_goals try (exfalso; omega)
  refine LpU.step Tryz.tysOk ?_
  conv => whnf
  repeat' (first
    | (first | ((with_reducible refine Br.dt ?_ ?_); (focus (first | assumption | omega)); conv => whnf) | ((with_reducible refine Br.ndf ?_ ?_); (focus (first | assumption | omega)); conv => whnf))
    | ((with_reducible refine Ar.i64 ?_ ?_); (focus omega); conv => whnf)
    | ((with_reducible refine Ix.ad ?_ ?_ ?_); (focus (exact Ad.mono (Rd.ad (by assumption)) (by (omega)))); (focus (omega)); conv => whnf)
    | ((apply Ld.rd0); (focus ((repeat (first | assumption | apply Rd.cons)); done)); (focus rfl); (focus (omega)); (focus rfl); conv => whnf)
    | ((with_reducible refine (?_ : Cl _ 38 _ _ _ _)); (refine Cl.is (Tryz.evS (hg (by omega)) (h2 _)) ?_); conv => whnf))
  all_goals try (exfalso; omega)
  refine LpU.step Tryz.tysOk ?_
  conv => whnf
  repeat' (first
    | (first | ((with_reducible refine Br.dt ?_ ?_); (focus (first | assumption | omega)); conv => whnf) | ((with_reducible refine Br.ndf ?_ ?_); (focus (first | assumption | omega)); conv => whnf))
    | ((with_reducible refine Ar.i64 ?_ ?_); (focus omega); conv => whnf)
    | ((with_reducible refine Ix.ad ?_ ?_ ?_); (focus (exact Ad.mono (Rd.ad (by assumption)) (by (omega)))); (focus (omega)); conv => whnf)
    | ((apply Ld.rd0); (focus ((repeat (first | assumption | apply Rd.cons)); done)); (focus rfl); (focus (omega)); (focus rfl); conv => whnf)
    | ((with_reducible refine (?_ : Cl _ 38 _ _ _ _)); (refine Cl.is (Tryz.evS (hg (by omega)) (h3 _)) ?_); conv => whnf))
  all_goals try (exfalso; omega)
  refine LpU.step Tryz.tysOk ?_
  conv => whnf
  repeat' (first
    | (first | ((with_reducible refine Br.dt ?_ ?_); (focus (first | assumption | omega)); conv => whnf) | ((with_reducible refine Br.ndf ?_ ?_); (focus (first | assumption | omega)); conv => whnf))
    | ((with_reducible refine Ar.i64 ?_ ?_); (focus omega); conv => whnf)
    | ((with_reducible refine Ix.ad ?_ ?_ ?_); (focus (exact Ad.mono (Rd.ad (by assumption)) (by (omega)))); (focus (omega)); conv => whnf)
    | ((apply Ld.rd0); (focus ((repeat (first | assumption | apply Rd.cons)); done)); (focus rfl); (focus (omega)); (focus rfl); conv => whnf)
    | ((with_reducible refine (?_ : Cl _ 38 _ _ _ _)); (refine Cl.exs (Tryz.evS (hg (by omega)) (h4 _)) ?_; rintro ⟨⟨a4, c4⟩, m4⟩ ⟨u4, v4, w4⟩; dsimp only at u4 v4 w4); conv => whnf))
  all_goals try (exfalso; omega)
  refine LpU.step Tryz.tysOk ?_
  conv => whnf
  repeat' (first
    | (first | ((with_reducible refine Br.dt ?_ ?_); (focus (first | assumption | omega)); conv => whnf) | ((with_reducible refine Br.ndf ?_ ?_); (focus (first | assumption | omega)); conv => whnf))
    | ((with_reducible refine Ar.i64 ?_ ?_); (focus omega); conv => whnf)
    | ((with_reducible refine Ix.ad ?_ ?_ ?_); (focus (exact Ad.mono (Rd.ad (by assumption)) (by (omega)))); (focus (omega)); conv => whnf)
    | ((apply Ld.rd0); (focus ((repeat (first | assumption | apply Rd.cons)); done)); (focus rfl); (focus (omega)); (focus rfl); conv => whnf)
    | ((with_reducible refine (?_ : Cl _ 38 _ _ _ _)); (refine Cl.exs (Tryz.evS (hg (by omega)) (h5 _ _ _ _ u4 v4 w4)) ?_; rintro ⟨⟨a5, c5⟩, m5⟩ ⟨u5, v5, w5⟩; dsimp only at u5 v5 w5); conv => whnf))
  all_goals try (exfalso; omega)
  refine LpU.step Tryz.tysOk ?_
  conv => whnf
  repeat' ((with_reducible refine Br.df ?_ ?_); (focus (first | assumption | omega)); conv => whnf)
  all_goals try (exfalso; omega)
  exact Exs.of ((w, (a5, c5), m5) : Mw × (Option Addr × Nat) × List Mk6) (by dsimp only; unfold Tryz.mwP Tryz.mcA Tryz.mcH; (refine FEnt.ent ?_; (repeat (first | exact FEnt.rfl | (refine FEnt.at 0 rfl ?_; (try simp only [List.eraseIdx_cons_zero, List.eraseIdx_cons_succ, List.eraseIdx_zero, List.tail_cons])) | refine FEnt.drop ?_)); done)) ⟨hw, u5, v5, w5⟩ rfl
end Go.Proofs
set_option linter.all false
namespace Go.Proofs
open Go.Eng
set_option linter.unusedVariables false
set_option maxRecDepth 100000
set_option maxHeartbeats 8000000
theorem Tryz.mchTick (bx : Nat) (m d s l p v : Value) (t : Int) (P : Nat → Value) (pp : Nat) (L : List HP) : Con Tryz.prog 14 [pV bx] (ptc bx 74 (mch1 m d s l p t P pp v) :: L) (Is (n64 t) (ptc bx 74 (mch1 m d s l p t P pp v) :: L)) := by
  refine con_of Tryz.tysOk Tryz.func14 rfl rfl ?_
  conv => whnf
  repeat' (first
    | ((with_reducible refine Br.sn ?_); conv => whnf)
    | (refine Ld.at 0 rfl rfl ?_; conv => whnf))
  all_goals first | (exfalso; omega) | (refine Is.ent ?_ ?_; (focus (exact Ent.rfl)); (exact Is.rfl))
theorem Tryz.mrkClone (a : Option Addr) (c : Nat) (xs : List Mk6) (L : List HP) (hl : xs.length ≤ 1000) (hr : Rd markE L a xs) :
    Con Tryz.prog 40 [.slice a xs.length c] L (New markE 107 xs L) := by
  refine con_of Tryz.tysOk Tryz.func40 rfl rfl ?_
  conv => whnf
  repeat' (first
    | ((with_reducible refine Nc.go' (fun _ => ?_)); conv => whnf)
    | ((with_reducible refine (?_ : Sm _ (Builtin.append_ _ _ _) _ _)); (((with_reducible_and_instances apply (Sm.appNew (E := markE) (et := 107) Tryz.tysOk 0)); (focus rfl)); ((focus rfl); (focus ((repeat (first | assumption | apply Rd.cons)); done))); (focus rfl); (focus rfl); (focus rfl); (focus rfl); (focus rfl); (focus (omega)); (intro _ _ _ _); conv => whnf))
    | ((with_reducible refine Br.bs (fun _ => ?_) (fun _ => ?_) ) <;> (conv => whnf)))
  · rename_i h
    have hx : xs = [] := by
      rcases xs with _ | ⟨x, xs⟩
      · rfl
      · have := hr.ad (by simp)
        rw [this] at h; cases h
    subst hx
    exact New.nil Ent.rfl
  · first | (rename_i a2 c2 hc2 had2; exact New.of rfl hc2 had2 Ent.rfl) | exact New.of rfl (by assumption) (by assumption) Ent.rfl
theorem Tryz.mchIs (C : Cfg) (bx bp : Nat) (m d s l v : Value) (t : Int) (P : Nat → Value) (pp : Nat) (L : List HP) (h : C.xs.length = 1) : Con Tryz.prog 39 [pV bx, n64 1] (ptc bx 74 (mch1 m d s l (pV bp) t P pp v) :: Tryz.plnH C bp :: L) (Is (.bool true) (ptc bx 74 (mch1 m d s l (pV bp) t P pp v) :: Tryz.plnH C bp :: L)) := by
  have ho := fun m d s l v t P pp L => Tryz.mchOwners C bx bp m d s l v t P pp L
  rw [h] at ho
  clear h
  refine con_of Tryz.tysOk Tryz.func39 rfl rfl ?_
  conv => whnf
  repeat' (first
    | (first | ((with_reducible refine Br.tt ?_); conv => whnf) | ((with_reducible refine Br.dt ?_ ?_); (focus (first | assumption | omega)); conv => whnf))
    | ((refine Cl.isAt2 0 0 rfl rfl (ho _ _ _ _ _ _ _ _ _) ?_); conv => whnf))
  all_goals first | (exfalso; omega) | (refine Is.ent ?_ ?_; (focus (exact Ent.rfl)); (exact Is.rfl))
theorem Tryz.mchTrace (C : Cfg) (bx bp : Nat) (m d s l : Value) (t : Int) (P : Nat → Value) (pp : Nat) (ta : Option Addr) (tc : Nat) (ms : List Mk6) (L : List HP) (h : C.xs.length = 1) (hl : ms.length ≤ 100) (had : Ad ta ms.length) :
    Con Tryz.prog 15 [pV bx, n64 1] (ptc bx 74 (mch1 m d s l (pV bp) t P pp (.slice ta ms.length tc)) :: Tryz.plnH C bp :: own markE 107 ta tc ms :: L)
      (New markE 107 ms (ptc bx 74 (mch1 m d s l (pV bp) t P pp (.slice ta ms.length tc)) :: Tryz.plnH C bp :: own markE 107 ta tc ms :: L)) := by
  have hi := fun m d s l v t P pp L => Tryz.mchIs C bx bp m d s l v t P pp L h
  clear h
  refine con_of Tryz.tysOk Tryz.func15 rfl rfl ?_
  conv => whnf
  repeat' (first
    | ((with_reducible refine Br.nt ?_); conv => whnf)
    | ((refine Ix.arr (by decide) ?_); conv => whnf)
    | (refine Ld.at 0 rfl rfl ?_; conv => whnf)
    | (first | ((refine Cl.isAt2 0 0 rfl rfl (hi _ _ _ _ _ _ _ _ _) ?_); conv => whnf) | ((with_reducible refine Cl.new (Tryz.mrkClone _ _ _ _ (by omega) (Rd.own 2 rfl had)) (fun _ _ _ _ => ?_)); conv => whnf)))
  all_goals first | (exfalso; omega) | exact New.of rfl (by assumption) (by assumption) (by (exact Ent.rfl))
theorem Tryz.mchTick0 (w : Mw) (t : Int) (q : Mch) (ta : Option Addr) (tc : Nat) (ms : List Mk6) (L : List HP) : Con Tryz.prog 14 [pV w.bx] (Tryz.mwP w t q ta tc ms L) (Is (n64 t) (Tryz.mwP w t q ta tc ms L)) :=
  Tryz.mchTick w.bx _ _ _ _ _ _ t w.P w.pp _
theorem Tryz.begun (L : List HP) : Con Tryz.prog 4 [] L (Is (.bool true) L) := by
  have hp := fun C L => Tryz.imgPrint C L
  rw [show sealB ⟨bytes0.toArray⟩ = img0 from rfl] at hp
  have hr := fun ta tc L hr => Tryz.mchRun6 ta tc L hr
  generalize img0 = I at *
  generalize hq : mq1 = q at *
  clear hq
  refine con_of Tryz.tysOk Tryz.func4 rfl rfl ?_
  conv => whnf
  repeat' (first
    | ((with_reducible refine Nd.mk ?_ ?_); (focus (first | omega | rfl | assumption | (simp; done))); conv => whnf)
    | ((with_reducible refine Nc.go' (fun _ => ?_)); conv => whnf)
    | (refine LdN.at 0 rfl (by first | exact Nat.le_of_ble_eq_true rfl | (simp; done)) ?_; conv => whnf)
    | (refine St.at 0 rfl (by first | exact Nat.le_of_ble_eq_true rfl | (simp; done)) rfl ?_; conv => whnf))
  all_goals try (exfalso; omega)
  rename_i x3 x2 x1 x0
  refine Cl.is (hp ⟨20, some ⟨x3, 0, none⟩, 2, [(0, 0, 4), (1, 4, 20)], some ⟨x2, 0, none⟩, 1, [(1, 4, 12)], some ⟨x1, 0, none⟩, 1, [⟨128, 64, 1, 0, 2, 2, 0, 3, 0, 0⟩]⟩ _ ⟨rfl, rfl, rfl, rfl⟩ (Rd.ptc 3 rfl [_, _] rfl) (Rd.ptc 2 rfl [_] rfl) (Rd.ptc 1 rfl [_] rfl)) ?_
  conv => whnf
  repeat' (first
    | (first | ((with_reducible refine Br.tt ?_); conv => whnf) | ((with_reducible refine Br.dt ?_ ?_); (focus (first | assumption | omega)); conv => whnf))
    | ((with_reducible refine Nd.mk ?_ ?_); (focus (first | omega | rfl | assumption | (simp; done))); conv => whnf)
    | ((with_reducible apply (Mk.own evE)); (focus rfl); (focus (omega)); (focus rfl); (intro _); conv => whnf)
    | (first | ((with_reducible refine (?_ : Cl _ 13 _ _ _ _)); (refine Cl.exs (hr _ _ _ (Rd.own 0 rfl (fun _ => rfl))) ?_; rintro ⟨w, ⟨ta, tc⟩, ms⟩ ⟨hw, hm, hc, had⟩; dsimp only at hw hm hc had); conv => whnf) | ((refine Cl.isAt 0 rfl (Tryz.mchTick0 w _ _ _ _ _ _) ?_); conv => whnf) | ((with_reducible refine (?_ : Cl _ 15 _ _ _ _)); (dsimp only; apply Cl.pre [ptc w.bx _ _, Tryz.plnH _ _, own markE _ ta tc ms]; (focus (repeat (first | exact FEnt.rfl | (refine FEnt.at 0 rfl ?_; (try simp only [List.eraseIdx_cons_zero, List.eraseIdx_cons_succ, List.eraseIdx_zero, List.tail_cons])) | (refine FEnt.at 1 rfl ?_; (try simp only [List.eraseIdx_cons_zero, List.eraseIdx_cons_succ, List.eraseIdx_zero, List.tail_cons])) | (refine FEnt.at 3 rfl ?_; (try simp only [List.eraseIdx_cons_zero, List.eraseIdx_cons_succ, List.eraseIdx_zero, List.tail_cons])))); done); refine Cl.new (Tryz.mchTrace w.C w.bx w.bp _ _ _ _ _ _ _ ta tc ms _ (by rw [hw.2.2.2]; rfl) (by omega) had) (fun a3 c3 hc3 had3 => ?_)); conv => whnf)))
  rw [hm]
  (try dsimp only [List.append_eq, List.cons_append, List.nil_append])
  all_goals (refine Is.ent ?_ ?_; (focus (refine FEnt.ent ?_; (repeat (first | exact FEnt.rfl | refine FEnt.drop ?_)); done)); (exact Is.rfl))
end Go.Proofs
set_option linter.all false
namespace Go.Proofs
open Go.Eng
set_option linter.unusedVariables false
set_option maxRecDepth 100000
set_option maxHeartbeats 8000000
theorem Tryz.mchPlanC (bx bp : Nat) (m d s l : Value) (t : Int) (P T : Nat → Value) (L : List HP) : Con Tryz.prog 29 [pV bx] (ptc bx 74 (mchC m d s l (pV bp) t P T) :: L) (Is (pV bp) (ptc bx 74 (mchC m d s l (pV bp) t P T) :: L)) := by
  refine con_of Tryz.tysOk Tryz.func29 rfl rfl ?_
  conv => whnf
  repeat' (first
    | ((with_reducible refine Br.sn ?_); conv => whnf)
    | (refine Ld.at 0 rfl rfl ?_; conv => whnf))
  all_goals first | (exfalso; omega) | (refine Is.ent ?_ ?_; (focus (exact Ent.rfl)); (exact Is.rfl))
theorem Tryz.mchOwnersC (C : Cfg) (bx bp : Nat) (m d s l : Value) (t : Int) (P T : Nat → Value) (L : List HP) : Con Tryz.prog 11 [pV bx] (ptc bx 74 (mchC m d s l (pV bp) t P T) :: Tryz.plnH C bp :: L) (Is (n64 C.xs.length) (ptc bx 74 (mchC m d s l (pV bp) t P T) :: Tryz.plnH C bp :: L)) := by
  have ho := fun L => Tryz.plnOwners C bp L
  refine con_of Tryz.tysOk Tryz.func11 rfl rfl ?_
  conv => whnf
  repeat' (first | ((refine Cl.isAt 0 rfl (Tryz.mchPlanC bx bp _ _ _ _ _ _ _ _) ?_); conv => whnf) | ((refine Cl.isAt 1 rfl (ho _) ?_); conv => whnf))
  all_goals first | (exfalso; omega) | (refine Is.ent ?_ ?_; (focus (exact Ent.rfl)); (exact Is.rfl))
/-- whether the law looks at this text -/
def lawT (s : ByteArray) (f : Bool) : ByteArray := if f then sealB ((⟨#[67, 1]⟩ : ByteArray) ++ s) else s
theorem Tryz.topNo (s : ByteArray) (f : Bool) (L : List HP) (hs : s.size ≤ 700) (ht : (lawT s f).size ≤ 1000000) (h0 : ¬ imgE (lawT s f) = 0) : Con Tryz.prog 3 [.string s, .bool f] L (Is (.bool true) L) := by
  have hbg := fun L => Tryz.begun L
  have hse : ∀ L, Con Tryz.prog 5 [.string ((⟨#[67, 1]⟩ : ByteArray) ++ s)] L (Is (.string (sealB ((⟨#[67, 1]⟩ : ByteArray) ++ s))) L) := fun L => Tryz.seal08 _ L (by rw [ByteArray.size_append]; have : (⟨#[67, 1]⟩ : ByteArray).size = 2 := rfl; omega)
  have hb : bootE (lawT s f) = imgE (lawT s f) := by unfold bootE; rw [if_neg h0]
  have h11 := imgE_11 (lawT s f)
  have hp := fun L => Tryz.refParse (lawT s f) L ht
  have hi := fun L => Tryz.imgBoot (lawT s f) L ht
  have hm := fun L => Tryz.mchNo (lawT s f) L ht (by rw [hb]; exact h0)
  have hl : ∀ y : Btl, BtOk (lawT s f) y → y.2.2.1 = 0 := fun y h => by
    have := h.l
    rw [hb] at this
    omega
  unfold Tryz.PrsP at hp
  unfold Tryz.BtP at hi
  rw [hb] at hi hm
  clear hb ht
  generalize imgE (lawT s f) = e at *
  cases f with
  | false =>
    have he : lawT s false = s := rfl
    rw [he] at hp hi hm hl
    have hz2 : (⟨#[67, 1]⟩ : ByteArray).size = 2 := rfl
    refine con_of Tryz.tysOk Tryz.func3 rfl rfl ?_
    conv => whnf
    repeat' (first
      | (first | ((with_reducible refine Br.tt ?_); conv => whnf) | ((with_reducible refine Br.ff ?_); conv => whnf) | ((with_reducible refine Br.nn ?_); conv => whnf) | ((with_reducible refine Br.dt ?_ ?_); (focus (first | assumption | omega)); conv => whnf) | ((with_reducible refine Br.df ?_ ?_); (focus (first | assumption | omega)); conv => whnf) | ((with_reducible refine Br.ndt ?_ ?_); (focus (first | assumption | omega)); conv => whnf))
      | ((with_reducible refine Nd.mk ?_ ?_); (focus (first | omega | rfl | assumption | (simp; done))); conv => whnf)
      | ((with_reducible refine Nc.go' (fun _ => ?_)); conv => whnf)
      | (refine St.at 0 rfl (by first | exact Nat.le_of_ble_eq_true rfl | (simp; done)) rfl ?_; conv => whnf)
      | (first | ((with_reducible refine Cl.is (hbg _) ?_); conv => whnf) | ((with_reducible refine (?_ : Cl _ 6 _ _ _ _)); (refine Cl.exs (hp _) ?_; rintro C hC); conv => whnf) | ((with_reducible refine (?_ : Cl _ 8 _ _ _ _)); (refine Cl.exs (hi _) ?_; rintro ⟨D, la, ln, lc⟩ hD; have hl0 := hl _ hD; dsimp only at hl0 ⊢); conv => whnf) | ((with_reducible refine (?_ : Cl _ 9 _ _ _ _)); (refine Cl.exs (hm _) ?_; rintro ⟨fa, fn, fc⟩ -); conv => whnf)))
    all_goals try (exfalso; omega)
    all_goals (rw [show (decide (e = 11) == decide ((0 : Int) < (ln : Int))) = true by rw [decide_eq_false h11, decide_eq_false (by omega)]; rfl]; (refine Is.ent ?_ ?_; (focus (refine FEnt.ent ?_; (repeat (first | exact FEnt.rfl | refine FEnt.drop ?_)); done)); (exact Is.rfl)))
  | true =>
    have he : lawT s true = sealB ((⟨#[67, 1]⟩ : ByteArray) ++ s) := rfl
    rw [he] at hp hi hm hl
    clear he
    generalize sealB ((⟨#[67, 1]⟩ : ByteArray) ++ s) = u at *
    have hz2 : (⟨#[67, 1]⟩ : ByteArray).size = 2 := rfl
    refine con_of Tryz.tysOk Tryz.func3 rfl rfl ?_
    conv => whnf
    repeat' (first
      | (first | ((with_reducible refine Br.tt ?_); conv => whnf) | ((with_reducible refine Br.ff ?_); conv => whnf) | ((with_reducible refine Br.nn ?_); conv => whnf) | ((with_reducible refine Br.dt ?_ ?_); (focus (first | assumption | omega)); conv => whnf) | ((with_reducible refine Br.df ?_ ?_); (focus (first | assumption | omega)); conv => whnf) | ((with_reducible refine Br.ndt ?_ ?_); (focus (first | assumption | omega)); conv => whnf))
      | ((with_reducible refine Nd.mk ?_ ?_); (focus (first | omega | rfl | assumption | (simp; done))); conv => whnf)
      | ((with_reducible refine Nc.go' (fun _ => ?_)); conv => whnf)
      | (refine St.at 0 rfl (by first | exact Nat.le_of_ble_eq_true rfl | (simp; done)) rfl ?_; conv => whnf)
      | (first | ((with_reducible refine Cl.is (hbg _) ?_); conv => whnf) | ((with_reducible refine Cl.is (hse _) ?_); conv => whnf) | ((with_reducible refine (?_ : Cl _ 6 _ _ _ _)); (refine Cl.exs (hp _) ?_; rintro C hC); conv => whnf) | ((with_reducible refine (?_ : Cl _ 8 _ _ _ _)); (refine Cl.exs (hi _) ?_; rintro ⟨D, la, ln, lc⟩ hD; have hl0 := hl _ hD; dsimp only at hl0 ⊢); conv => whnf) | ((with_reducible refine (?_ : Cl _ 9 _ _ _ _)); (refine Cl.exs (hm _) ?_; rintro ⟨fa, fn, fc⟩ -); conv => whnf)))
    all_goals try (exfalso; omega)
    all_goals (rw [show (decide (e = 11) == decide ((0 : Int) < (ln : Int))) = true by rw [decide_eq_false h11, decide_eq_false (by omega)]; rfl]; (refine Is.ent ?_ ?_; (focus (refine FEnt.ent ?_; (repeat (first | exact FEnt.rfl | refine FEnt.drop ?_)); done)); (exact Is.rfl)))
end Go.Proofs
