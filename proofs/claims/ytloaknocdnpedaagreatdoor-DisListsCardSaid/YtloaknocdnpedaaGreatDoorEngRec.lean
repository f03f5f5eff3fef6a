/- A function that begins with a deferred closure which recovers: its contract, out of its body's. -/
import Derived.Test.YtloaknocdnpedaaGreatDoorEngPan
import Derived.Defers
import Derived.Recover
set_option linter.all false
namespace Go.Eng
set_option linter.unusedVariables false
variable {P : Program} {τ : Tys}
theorem mf_exec {mf : Oper} {g : FuncId} {tb : Nat} (hop : mf.op = .makeFunc (.func g) #[] #[.tmp tb]) (ρ : Operand → Value) (w : World) : (execOp ρ mf).run P w = .ok (.value (.func (.func g) #[] #[ρ (.tmp tb)])) w := by
  simp [execOp, hop, Instr.makeFunc]
theorem df_exec {df : Oper} {c : Call} {g : FuncId} {td : Nat} {caps : Array Value} (hop : df.op = .defer c) (hc : c.callee = .value (.tmp td)) (ha : c.args = #[]) (ρ : Operand → Value) (hv : ρ (.tmp td) = .func (.func g) #[] caps) (w : World) :
    (execOp ρ df).run P w = .ok (.defer { target := .fn (.func g) caps, args := #[] }) w := by
  simp [execOp, hop, resolve, hc, ha, hv, Deferred.ofValue]
abbrev dfrR (g b : Nat) : Deferred := { target := .fn (.func g) #[.pointer (some ⟨b, 0, none⟩)], args := #[] }
def recR (P : Program) (τ : Tys) (fn : Func) (flt : Int → Value) (b : Nat) (T : TypeId) (R : Value → List HP → Prop) : Post := fun e l L =>
  match e with
  | .normal => endK P τ fn R l L
  | .ret => endK P τ fn R l L
  | .panic ch => ∃ (e x : Int) (M : List HP), ch = [{ v := flt e, recovered := false }] ∧ Ent L (ptc b T [.int .i64 x] :: M) ∧ endK P τ fn R l (ptc b T [.int .i64 e] :: M)
  | _ => False
theorem con_rec (hτ : TysOk P τ) {f g : FuncId} {fn : Func} {r0 rest : Code} {id1 : Nat} {mf df : Oper} {args : List Value} {L : List HP} {R : Value → List HP → Prop} {tb td : Nat} {T : TypeId} {c : Call} {flt : Int → Value}
    (hf : P.funcs[f]? = some fn) (hb : fn.body = some (.seq r0 (.seq (.region id1 #[mf, df] false) rest))) (hn : (fn.name == "runtime.NumGoroutine") = false)
    (hmf : mf.op = .makeFunc (.func g) #[] #[.tmp tb]) (hmd : mf.dst = some td) (hmg : mf.guard = none)
    (hdf : df.op = .defer c) (hc : c.callee = .value (.tmp td)) (ha : c.args = #[]) (hdd : df.dst = none) (hdg : df.guard = none)
    (hen : ∀ args w, (callFunc g args).run P w = .ok (.enter g args) w)
    (idle : ∀ b L w, Sat w L → CallsD P g #[.pointer (some ⟨b, 0, none⟩)] .returning w fun e u' w' => e = .returned (.tuple #[]) ∧ u' = .returning ∧ Sat w' L)
    (pan : ∀ b e x M w, Sat w (ptc b T [.int .i64 x] :: M) → CallsD P g #[.pointer (some ⟨b, 0, none⟩)] (.panicking ({ v := flt e, recovered := false } :: [])) w fun en u' w' => en = .returned (.tuple #[]) ∧ u' = .panicking ({ v := flt e, recovered := true } :: []) ∧ Sat w' (ptc b T [.int .i64 e] :: M))
    (htb : tb < (args ++ List.replicate (fn.ntmps - args.length) undef).length) (htd : td < (args ++ List.replicate (fn.ntmps - args.length) undef).length)
    (h0 : wpC P τ [] r0 (fun e l L' => e = .normal ∧ ∃ b, l = (args ++ List.replicate (fn.ntmps - args.length) undef).set tb (.pointer (some ⟨b, 0, none⟩)) ∧ L' = ptc b T [.int .i64 0] :: L) (args ++ List.replicate (fn.ntmps - args.length) undef) L)
    (H : ∀ b, wpC P τ [dfrR g b] rest (recR P τ fn flt b T R) (((args ++ List.replicate (fn.ntmps - args.length) undef).set tb (.pointer (some ⟨b, 0, none⟩))).set td (.func (.func g) #[] #[.pointer (some ⟨b, 0, none⟩)])) (ptc b T [.int .i64 0] :: L)) :
    Con P f args L R := by
  refine ⟨⟨fn, hf, hn, by rw [hb]; rfl⟩, fun w s => calls_of_wp_defers hf hb ?_⟩
  have he : args.toArray ++ Array.replicate (fn.ntmps - args.toArray.size) undef = (args ++ List.replicate (fn.ntmps - args.length) undef).toArray := by
    apply Array.ext'; simp
  rw [he]
  generalize args ++ List.replicate (fn.ntmps - args.length) undef = l0 at *
  refine wp_seq (wp_mono (wpC_sound (D := []) hτ _ _ _ _ h0 w s) ?_)
  rintro e a w' ⟨l', L', rfl, s', rfl, b, rfl, rfl⟩
  have hinv : ∀ w, (invoke (.fn (.func g) #[.pointer (some ⟨b, 0, none⟩)]) #[]).run P w = .ok (.enter g #[.pointer (some ⟨b, 0, none⟩)]) w := fun w => by simp [invoke, hen]
  have e1 : (Act.mk (l0.set tb (.pointer (some ⟨b, 0, none⟩))).toArray []).eval (.tmp tb) = .pointer (some ⟨b, 0, none⟩) := by
    rw [eval_evl]
    simp [evl, List.getD, htb]
  have hlast : rest.wp P (bodyPostD P fn fun
      | .returned v, w' => ∃ L', Sat w' L' ∧ R v L'
      | .panicked ch, w' => ∃ L', Sat w' L' ∧ False
      | .outgrown, _ => False) ⟨((l0.set tb (.pointer (some ⟨b, 0, none⟩))).set td (.func (.func g) #[] #[.pointer (some ⟨b, 0, none⟩)])).toArray, [dfrR g b]⟩ w' := by
    refine wp_mono (wpC_sound (D := [dfrR g b]) hτ _ _ _ _ (H b) w' s') ?_
    rintro e a w2 ⟨l2, L2, rfl, s2, hq⟩
    have hret : endK P τ fn R l2 L2 → Leaves P fn l2.toArray (fun
      | .returned v, w' => ∃ L', Sat w' L' ∧ R v L'
      | .panicked ch, w' => ∃ L', Sat w' L' ∧ False
      | .outgrown, _ => False) [dfrR g b] .returning w2 := fun hq => by
      refine leaves_cons (by simp) (hinv w2) ((idle b L2 w2 s2).mono ?_)
      rintro en u' w3 ⟨rfl, rfl, s3⟩
      obtain ⟨v, hr, hR⟩ := end_spec hτ hq s3
      exact ⟨v, hr, L2, s3, hR⟩
    cases e with
    | normal => exact hret hq
    | ret => exact hret hq
    | panic ch =>
      obtain ⟨e, x, M, rfl, hE, hk⟩ := hq
      refine leaves_cons (by simp) (hinv w2) ((pan b e x M w2 (hE w2 s2)).mono ?_)
      rintro en u' w3 ⟨rfl, rfl, s3⟩
      obtain ⟨v, hr, hR⟩ := end_spec hτ hk s3
      exact ⟨v, hr, _, s3, hR⟩
    | exit i => exact hq
    | goto i => exact hq
    | outgrown => exact hq
  refine wp_seq (wp_region_list ?_)
  show wpList P #[mf, df] _ [mf, df] _ w'
  unfold wpList
  rw [if_pos (wanted_none hmg)]
  refine .inl ?_
  unfold Oper.wp
  rw [mf_exec hmf, Oper.upon_value, put_put, hmd, e1]
  unfold wpList
  rw [if_pos (wanted_none hdg)]
  refine .inl ?_
  unfold Oper.wp
  rw [df_exec hdf hc ha (g := g) (caps := #[.pointer (some ⟨b, 0, none⟩)]) _ (by rw [eval_evl]; simp [evl, put, List.getD, htd])]
  unfold Oper.upon
  simp only [hdd, Act.put]
  exact hlast
end Go.Eng
