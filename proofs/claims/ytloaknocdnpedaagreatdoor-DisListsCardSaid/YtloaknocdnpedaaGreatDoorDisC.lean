/- A short program's listing: what must be whatever is asked. -/
import Derived.Test.YtloaknocdnpedaaGreatDoorDisB
set_option linter.all false
namespace Go.Eng
open Go
variable {P : Program}
/-- a map's entry, laid -/
theorem Raw.ins {o : Oper} {l : Env} {L : List HP} {K : Value → List HP → Prop} {X : List PanicEntry → List HP → Prop} {t : TypeId} {m k x : Operand} (ho : o.op = .insert t m k x)
    (h : evK l m fun vm => evK l k fun vk => evK l x fun vx => Sm P (do Instr.mapUpdate t vm vk vx; pure undef) L K) : Raw P o l L K X := by
  simp only [evK_eq] at h
  exact ⟨step_semu (fun w => by simp only [execOp, ho, Sem.run_bind]; rfl) h⟩
end Go.Eng
namespace Go.Proofs
open Go.Eng
open Classical
set_option linter.unusedVariables false
set_option maxRecDepth 100000
set_option maxHeartbeats 4000000
abbrev liveS : ByteArray := ⟨#[11, 0, 4, 0, 7]⟩
abbrev p0 : Pc := ⟨0, true, 11, 0, 4, 0⟩
abbrev p1 : Pc := ⟨4, false, 0, 0, 0, 7⟩
theorem live_at0 : insC (liveS.extract 0 5) = 11 ∧ insX (liveS.extract 0 5) = 0 ∧ insN (liveS.extract 0 5) = 4 := by decide +kernel
theorem cut_live : cutF liveS 0 = [p0, p1] := by
  have hs : liveS.size = 5 := rfl
  obtain ⟨h1, h2, h3⟩ := live_at0
  have hi : insAt liveS 0 := ⟨by rw [hs]; omega, by
    rw [hs]
    show mayI (insC (liveS.extract 0 5)) (insX (liveS.extract 0 5)) (insN (liveS.extract 0 5))
    rw [h1, h2, h3]; decide⟩
  have hn : ¬ insAt liveS 4 := fun h => by have := h.1; rw [hs] at this; omega
  rw [cut_i hi, cut_b (k := 0 + 4) (by rw [hs]; omega) hn, cut_e (k := 0 + 4 + 1) (by rw [hs]; omega)]
  have e0 : pcI liveS 0 = p0 := by
    show (⟨_, _, insC (liveS.extract 0 5), insX (liveS.extract 0 5), insN (liveS.extract 0 5), _⟩ : Pc) = _
    rw [h1, h2, h3]; rfl
  rw [e0]
  rfl
theorem Tryz.disGoes0 (L : List HP) : Con Tryz.prog 29 [pcV p0] L (Is (.bool true) L) := by
  refine con_of Tryz.tysOk Tryz.func29 rfl rfl ?_
  conv => whnf
  repeat' (first
    | (first | ((with_reducible refine Br.tt ?_); conv => whnf) | ((with_reducible refine Br.yes ?_ ?_); (focus (first | (simp; done) | (simp; omega))); conv => whnf))
    | ((with_reducible refine Nc.go' (fun _ => ?_)); conv => whnf)
    | (refine Ld.at 0 rfl rfl ?_; conv => whnf))
  all_goals first | (refine Is.ent ?_ ?_; (focus (refine FEnt.ent ?_; (repeat (first | exact FEnt.rfl | refine FEnt.drop ?_)); done)); (exact Is.rfl)) | (exfalso; omega)
theorem Tryz.disGoes1 (L : List HP) : Con Tryz.prog 29 [pcV p1] L (Is (.bool false) L) := by
  refine con_of Tryz.tysOk Tryz.func29 rfl rfl ?_
  conv => whnf
  repeat' (first
    | ((with_reducible refine Br.ff ?_); conv => whnf)
    | ((with_reducible refine Nc.go' (fun _ => ?_)); conv => whnf)
    | (refine Ld.at 0 rfl rfl ?_; conv => whnf))
  all_goals first | (refine Is.ent ?_ ?_; (focus (refine FEnt.ent ?_; (repeat (first | exact FEnt.rfl | refine FEnt.drop ?_)); done)); (exact Is.rfl)) | (exfalso; omega)
abbrev kv (k v : Int) : Value × Value := (.int .i64 k, .int .i64 v)
theorem Tryz.disTargets (a : Option Addr) (c : Nat) (L : List HP) (hr : Rd pcE L a [p0, p1]) (had : Ad a 2) :
    Con Tryz.prog 13 [.slice a 2 c, .int .i64 5] L (Exs (fun b : Nat => .map (some b)) (fun b => mapH b (.int .i64) [kv 4 1] :: L) (fun _ => True)) := by
  have g0 := fun L => Tryz.disGoes0 L
  have g1 := fun L => Tryz.disGoes1 L
  have hlen : ([p0, p1] : List Pc).length = 2 := rfl
  have e0 : ([p0, p1] : List Pc).getD 0 pcE.d = p0 := rfl
  have e1 : ([p0, p1] : List Pc).getD 1 pcE.d = p1 := rfl
  refine con_of Tryz.tysOk Tryz.func13 rfl rfl ?_
  conv => whnf
  repeat' (first
    | ((with_reducible refine Nw.map (.int .i64) (fun _ => ?_)); conv => whnf)
    | ((refine Raw.ins rfl ?_); conv => whnf)
    | ((refine Sm.putNew Tryz.tysOk 0 rfl rfl rfl rfl rfl (by first | exact rfl | exact trivial) (by simp) ?_); conv => whnf))
  rename_i m
  conv => whnf
  refine Lp.by2 Tryz.tysOk [16] (fun (k : Nat) (es : List (Value × Value)) => [.int .i64 k]) (fun k es => mapH m (.int .i64) es :: L) (fun k es => (k = 0 ∧ es = [kv 5 1]) ∨ (k = 1 ∧ es = [kv 5 1, kv 0 1]) ∨ (k = 2 ∧ es = [kv 5 1, kv 0 1, kv 4 1])) (fun k es => 2 - k) (0) ([kv 5 1]) (by kernel_rfl) (by (exact Ent.rfl)) (.inl ⟨rfl, rfl⟩) ?_
  rintro k es g
  conv => whnf
  repeat (intro _; conv => whnf)
  rcases g with ⟨rfl, rfl⟩ | ⟨rfl, rfl⟩ | ⟨rfl, rfl⟩
  · conv => whnf
    repeat' (first
      | ((with_reducible refine Br.dt ?_ ?_); (focus (first | assumption | omega)); conv => whnf)
      | ((with_reducible refine Ar.i64 ?_ ?_); (focus omega); conv => whnf)
      | ((with_reducible refine Nd.mk ?_ ?_); (focus (first | omega | rfl | assumption | (simp; done))); conv => whnf)
      | ((with_reducible refine Nc.go' (fun _ => ?_)); conv => whnf)
      | ((with_reducible refine Ix.ad ?_ ?_ ?_); (focus (assumption)); (focus (omega)); conv => whnf)
      | (refine Ld.at 0 rfl rfl ?_; conv => whnf)
      | ((with_reducible apply LdN.rdk); (focus ((repeat (first | assumption | apply Rd.cons)); done)); (focus rfl); (focus rfl); (focus (omega)); conv => whnf)
      | (refine St.at 0 rfl (by first | exact Nat.le_of_ble_eq_true rfl | (simp; done)) rfl ?_; conv => whnf)
      | ((refine Sm.putNew Tryz.tysOk 1 rfl rfl rfl rfl rfl (by first | exact rfl | exact trivial) (by simp) ?_); conv => whnf))
    all_goals exact ⟨1, [kv 5 1, kv 0 1], by kernel_rfl, by (refine FEnt.ent ?_; (repeat (first | exact FEnt.rfl | (refine FEnt.at 1 rfl ?_; (try simp only [List.eraseIdx_cons_zero, List.eraseIdx_cons_succ, List.eraseIdx_zero, List.tail_cons])) | refine FEnt.drop ?_)); done), .inr (.inl ⟨rfl, rfl⟩), by omega⟩
  · conv => whnf
    repeat' (first
      | ((with_reducible refine Br.dt ?_ ?_); (focus (first | assumption | omega)); conv => whnf)
      | ((with_reducible refine Ar.i64 ?_ ?_); (focus omega); conv => whnf)
      | ((with_reducible refine Nd.mk ?_ ?_); (focus (first | omega | rfl | assumption | (simp; done))); conv => whnf)
      | ((with_reducible refine Nc.go' (fun _ => ?_)); conv => whnf)
      | ((with_reducible refine Ix.ad ?_ ?_ ?_); (focus (assumption)); (focus (omega)); conv => whnf)
      | (refine Ld.at 0 rfl rfl ?_; conv => whnf)
      | ((with_reducible apply LdN.rdk); (focus ((repeat (first | assumption | apply Rd.cons)); done)); (focus rfl); (focus rfl); (focus (omega)); conv => whnf)
      | (refine St.at 0 rfl (by first | exact Nat.le_of_ble_eq_true rfl | (simp; done)) rfl ?_; conv => whnf)
      | ((refine Sm.putNew Tryz.tysOk 1 rfl rfl rfl rfl rfl (by first | exact rfl | exact trivial) (by simp) ?_); conv => whnf))
    all_goals exact ⟨2, [kv 5 1, kv 0 1, kv 4 1], by kernel_rfl, by (refine FEnt.ent ?_; (repeat (first | exact FEnt.rfl | (refine FEnt.at 1 rfl ?_; (try simp only [List.eraseIdx_cons_zero, List.eraseIdx_cons_succ, List.eraseIdx_zero, List.tail_cons])) | refine FEnt.drop ?_)); done), .inr (.inr ⟨rfl, rfl⟩), by omega⟩
  · conv => whnf
    repeat' (first
      | ((with_reducible refine Br.df ?_ ?_); (focus (first | assumption | omega)); conv => whnf)
      | ((with_reducible refine Nw.map (.int .i64) (fun _ => ?_)); conv => whnf))
    rename_i m2
    conv => whnf
    refine Lp.by2 Tryz.tysOk [27] (fun (k : Nat) (es : List (Value × Value)) => [.int .i64 k]) (fun k es => mapH m2 (.int .i64) es :: mapH m (.int .i64) [kv 5 1, kv 0 1, kv 4 1] :: L) (fun k es => (k = 0 ∧ es = []) ∨ (k = 1 ∧ es = [kv 4 1]) ∨ (k = 2 ∧ es = [kv 4 1])) (fun k es => 2 - k) (0) ([]) (by kernel_rfl) (by (exact Ent.rfl)) (.inl ⟨rfl, rfl⟩) ?_
    rintro k es g
    conv => whnf
    repeat (intro _; conv => whnf)
    rcases g with ⟨rfl, rfl⟩ | ⟨rfl, rfl⟩ | ⟨rfl, rfl⟩
    · conv => whnf
      repeat' (first
        | (first | ((with_reducible refine Br.tt ?_); conv => whnf) | ((with_reducible refine Br.dt ?_ ?_); (focus (first | assumption | omega)); conv => whnf))
        | ((with_reducible refine Ar.i64 ?_ ?_); (focus omega); conv => whnf)
        | ((with_reducible refine Nd.mk ?_ ?_); (focus (first | omega | rfl | assumption | (simp; done))); conv => whnf)
        | ((with_reducible refine Nc.go' (fun _ => ?_)); conv => whnf)
        | ((with_reducible refine Ix.ad ?_ ?_ ?_); (focus (assumption)); (focus (omega)); conv => whnf)
        | (refine Ld.at 0 rfl rfl ?_; conv => whnf)
        | (first | ((with_reducible apply LdN.rdk); (focus ((repeat (first | assumption | apply Rd.cons)); done)); (focus rfl); (focus rfl); (focus (omega)); conv => whnf) | (refine LdN.at 0 rfl (by first | exact Nat.le_of_ble_eq_true rfl | (simp; done)) ?_; conv => whnf))
        | (refine St.at 0 rfl (by first | exact Nat.le_of_ble_eq_true rfl | (simp; done)) rfl ?_; conv => whnf)
        | ((with_reducible refine (?_ : Cl _ 29 _ _ _ _)); (refine Cl.is (g0 _) ?_); conv => whnf)
        | ((refine Sm.lkYes Tryz.tysOk 2 rfl rfl rfl rfl rfl (by first | exact rfl | exact trivial) 2 (show ([kv 5 1, kv 0 1, kv 4 1] : List (Value × Value))[2]? = some (.int .i64 4, .int .i64 1) from rfl) ?_); conv => whnf)
        | ((refine Sm.lkNo Tryz.tysOk 1 rfl rfl rfl rfl rfl rfl (by first | exact rfl | exact trivial) (by simp) ?_); conv => whnf)
        | ((refine Sm.putNew Tryz.tysOk 1 rfl rfl rfl rfl rfl (by first | exact rfl | exact trivial) (by simp) ?_); conv => whnf))
      all_goals exact ⟨1, [kv 4 1], by kernel_rfl, by (refine FEnt.ent ?_; (repeat (first | exact FEnt.rfl | (refine FEnt.at 1 rfl ?_; (try simp only [List.eraseIdx_cons_zero, List.eraseIdx_cons_succ, List.eraseIdx_zero, List.tail_cons])) | refine FEnt.drop ?_)); done), .inr (.inl ⟨rfl, rfl⟩), by omega⟩
    · conv => whnf
      repeat' (first
        | (first | ((with_reducible refine Br.ff ?_); conv => whnf) | ((with_reducible refine Br.dt ?_ ?_); (focus (first | assumption | omega)); conv => whnf))
        | ((with_reducible refine Ar.i64 ?_ ?_); (focus omega); conv => whnf)
        | ((with_reducible refine Nd.mk ?_ ?_); (focus (first | omega | rfl | assumption | (simp; done))); conv => whnf)
        | ((with_reducible refine Nc.go' (fun _ => ?_)); conv => whnf)
        | ((with_reducible refine Ix.ad ?_ ?_ ?_); (focus (assumption)); (focus (omega)); conv => whnf)
        | (first | ((with_reducible apply LdN.rdk); (focus ((repeat (first | assumption | apply Rd.cons)); done)); (focus rfl); (focus rfl); (focus (omega)); conv => whnf) | (refine LdN.at 0 rfl (by first | exact Nat.le_of_ble_eq_true rfl | (simp; done)) ?_; conv => whnf))
        | (refine St.at 0 rfl (by first | exact Nat.le_of_ble_eq_true rfl | (simp; done)) rfl ?_; conv => whnf)
        | ((with_reducible refine (?_ : Cl _ 29 _ _ _ _)); (refine Cl.is (g1 _) ?_); conv => whnf))
      all_goals exact ⟨2, [kv 4 1], by kernel_rfl, by (refine FEnt.ent ?_; (repeat (first | exact FEnt.rfl | (refine FEnt.at 1 rfl ?_; (try simp only [List.eraseIdx_cons_zero, List.eraseIdx_cons_succ, List.eraseIdx_zero, List.tail_cons])) | refine FEnt.drop ?_)); done), .inr (.inr ⟨rfl, rfl⟩), by omega⟩
    · conv => whnf
      repeat' ((with_reducible refine Br.df ?_ ?_); (focus (first | assumption | omega)); conv => whnf)
      all_goals exact Exs.of m2 (by (refine FEnt.ent ?_; (repeat (first | exact FEnt.rfl | (refine FEnt.at 0 rfl ?_; (try simp only [List.eraseIdx_cons_zero, List.eraseIdx_cons_succ, List.eraseIdx_zero, List.tail_cons])) | refine FEnt.drop ?_)); done)) trivial rfl
end Go.Proofs
