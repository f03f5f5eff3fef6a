/- The assembler: all lines, with a deferred closure that recovers: contracts. -/
import Derived.Test.YtloaknocdnpedaaDoorAsmL
import Derived.Test.YtloaknocdnpedaaDoorEngRec
import Derived.Defers
import Derived.Recover
set_option linter.all false
namespace Go.Proofs
open Go.Eng Go.RowKit Go.MapKept
open Classical
set_option linter.unusedVariables false
set_option maxRecDepth 100000
set_option maxHeartbeats 4000000
theorem Sm.run' {P : Program} {s : Sem Value} {v : Value} {L : List HP} {K : Value → List HP → Prop} (h : ∀ w, s.run P w = .ok v w) (k : K v L) : Sm P s L K := ⟨fun w sw => ⟨v, w, L, h w, sw, k⟩⟩
theorem Tryd.recIdle (b : Nat) (L : List HP) (w : World) (s : Sat w L) : CallsD Tryd.prog 43 #[p64 b] .returning w fun e u' w' => e = .returned (.tuple #[]) ∧ u' = .returning ∧ Sat w' L := by
  refine callsD_of_wpS Tryd.func43 rfl fun c₀ cs hu => ?_
  apply wpS_seq
  apply wpS_region
  simp [wpOpsS, go_sem, recoverD, hu, Tryd.ntmps43, Exit.thenS]
  refine wpS_of_wp (wp_mono (wpC_sound (D := []) Tryd.tysOk _ (fun e l' L' => e = .normal ∧ Ent L' L) [p64 b, .nilIface, undef, undef, .nilIface, undef, undef, undef, undef, undef, undef, undef, undef, undef, undef, undef, undef] L ?_ w s) ?_)
  · skip
    conv => whnf
    repeat' (first
      | ((with_reducible refine Br.ff ?_); conv => whnf)
      | ((refine Sm.run' (v := .bool false) (fun w => by first | (simp [eqGuard, binOp, go_sem]; done) | rfl) ?_); conv => whnf))
    all_goals exact ⟨rfl, by (exact Ent.rfl)⟩
  · rintro e a w' ⟨l', L', rfl, s', rfl, hE⟩
    exact ⟨rfl, .returning, by cases c₀; simp_all, .tuple #[], by simp [results, Tryd.results43], rfl, rfl, hE w' s'⟩
theorem Tryd.recPan (b : Nat) (e : Int) (x : Int) (M : List HP) (w : World) (s : Sat w (ptc b 37 [.int .i64 x] :: M)) : CallsD Tryd.prog 43 #[p64 b] (.panicking ({ v := Tryd.fltV e, recovered := false } :: [])) w fun en u' w' =>
    en = .returned (.tuple #[]) ∧ u' = .panicking ({ v := Tryd.fltV e, recovered := true } :: []) ∧ Sat w' (ptc b 37 [.int .i64 e] :: M) := by
  refine callsD_of_wpS Tryd.func43 rfl fun c₀ cs hu => ?_
  apply wpS_seq
  apply wpS_region
  simp [wpOpsS, go_sem, recoverD, hu, Tryd.ntmps43, Exit.thenS]
  refine wpS_of_wp (wp_mono (wpC_sound (D := []) Tryd.tysOk _ (fun e' l' L' => e' = .normal ∧ Ent L' (ptc b 37 [.int .i64 e] :: M)) [p64 b, Tryd.fltV e, undef, undef, Tryd.fltV e, undef, undef, undef, undef, undef, undef, undef, undef, undef, undef, undef, undef] (ptc b 37 [.int .i64 x] :: M) ?_ w s) ?_)
  · skip
    conv => whnf
    repeat' (first
      | (first | ((with_reducible refine Br.tt ?_); conv => whnf) | ((with_reducible refine Br.nt ?_); conv => whnf))
      | ((with_reducible refine Nd.mk ?_ ?_); (focus (first | omega | rfl | assumption | (simp; done))); conv => whnf)
      | ((with_reducible refine Nc.go' (fun _ => ?_)); conv => whnf)
      | (refine Ld.at 0 rfl rfl ?_; conv => whnf)
      | (first | (refine St.at 0 rfl (by first | exact Nat.le_of_ble_eq_true rfl | (simp; done)) rfl ?_; conv => whnf) | (refine St.at 1 rfl (by first | exact Nat.le_of_ble_eq_true rfl | (simp; done)) rfl ?_; conv => whnf))
      | ((refine Sm.run' (v := .bool true) (fun w => by first | (simp [eqGuard, binOp, go_sem]; done) | rfl) ?_); conv => whnf)
      | ((refine Sm.run' (v := .tuple #[.agg #[.int .i64 e], .bool true]) (fun w => by first | (simp [Instr.typeAssert, go_sem]; done) | rfl) ?_); conv => whnf))
    all_goals exact ⟨rfl, by (refine FEnt.ent ?_; (repeat (first | exact FEnt.rfl | (refine FEnt.at 1 rfl ?_; (try simp only [List.eraseIdx_cons_zero, List.eraseIdx_cons_succ, List.eraseIdx_zero, List.tail_cons])) | refine FEnt.drop ?_)); done)⟩
  · rintro e' a w' ⟨l', L', rfl, s', rfl, hE⟩
    exact ⟨rfl, .panicking [{ v := Tryd.fltV e, recovered := true }], by cases c₀; simp_all, .tuple #[], by simp [results, Tryd.results43], rfl, rfl, hE w' s'⟩
end Go.Proofs
