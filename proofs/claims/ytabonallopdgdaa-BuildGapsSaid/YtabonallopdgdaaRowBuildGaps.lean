/-
  The law BuildGaps of the seat: it returns true for every input, and each argument reads behind the call as it read before. No condition.
-/
import Derived.Test.YtabonallopdgdaaRows
import Derived.Test.YtabonallopdgdaaBuildC
import Derived.Test.YtabonallopdgdaaConfOp
namespace Go.Proofs.Ytabonallopdgdaa.buildGaps
open Go.Eng Go.ChangeShapes Go.WideShapes Go.ChangeAt Go.RowKit
set_option linter.unusedVariables false
theorem own : ownKnob Try.prog.godebug = none := by kernel_rfl
set_option maxRecDepth 100000 in
theorem lifted (os : Os) (started : os.Started) (H : Type) (enc : TypeId × Value → H) :
    ReturnsInHanded {} Try.checked os 4 .any (Rows.buildGapsSpec.pre6 enc Try.prog Try.f4 Rows.buildGapsRow.domain false) (Rows.buildGapsSpec.post enc Try.prog Try.f4 false true false false) := by
  refine returnsInHanded_of_change (C := Try.checked) own started (by kernel_rfl) Try.func4
    (ChangeSpec.witness6 (enc := enc) (C := Try.checked) false ⟨#[], #[.int .i64 0, .int .i64 0, .int .i64 0, .slice none 0 0], []⟩ 8 (by kernel_rfl) (by kernel_rfl) (by kernel_rfl) (by kernel_rfl)) ?_
  intro W base args ds gs before hval0 hW hcnd _
  have hval : ∀ (j : Nat) t v, Try.f4.params[j]? = some t → args[j]? = some v → Value.okWide Try.prog W .any base t v := hval0
  have hW' := hW
  obtain ⟨p, q, hA0, hV, hpq, hfz, hnd⟩ := hW
  have hA : DataW.TrodAll enc Try.prog W 0 (fun _ => true) true Try.f4.params.toList args.toList ds p := hA0
  rw [Try.params4] at hA hval
  obtain ⟨v0, vs0, d0, ds0, p0, q0, hargs, rfl, hp0, h0, r0⟩ := trodAll_cons hA
  obtain ⟨v1, vs1, d1, ds1, p1, q1, rfl, rfl, hp1, h1, r1⟩ := trodAll_cons r0
  obtain ⟨v2, vs2, d2, ds2, p2, q2, rfl, rfl, hp2, h2, r2⟩ := trodAll_cons r1
  obtain ⟨v3, vs3, d3, ds3, p3, q3, rfl, rfl, hp3, h3, r3⟩ := trodAll_cons r2
  obtain ⟨rfl, rfl, _⟩ := trodAll_nil r3
  obtain rfl : args = #[v0, v1, v2, v3] := by cases args; simp_all
  obtain ⟨rfl, rfl⟩ := trodVars_none hV
  obtain ⟨n0, rfl, b0⟩ := arg_i64 (show Try.prog.underlying 3 = some (.int .i64) from by kernel_rfl) (hval 0 3 v0 rfl rfl) h0
  obtain ⟨n1, rfl, b1⟩ := arg_i64 (show Try.prog.underlying 3 = some (.int .i64) from by kernel_rfl) (hval 1 3 v1 rfl rfl) h1
  obtain ⟨n2, rfl, b2⟩ := arg_i64 (show Try.prog.underlying 3 = some (.int .i64) from by kernel_rfl) (hval 2 3 v2 rfl rfl) h2
  obtain ⟨a3, c3, x3, rfl, hc3, hm3, hr3, hi3⟩ := arg_slice (E := spE) Try.underlying44 Try.opSpan (by kernel_rfl) (hval 3 44 v3 rfl rfl) h3
  refine (law_calls (Try.buildGapsLaw n0 n1 n2 a3 c3 x3 [old W] b0 b1 b2 hc3 hm3 hr3)).mono fun e W' ⟨he, hg⟩ => ?_
  subst he
  exact ⟨_, rfl, post_law (P := Try.prog) (tb := 4) (by kernel_rfl) (by kernel_rfl) (by kernel_rfl) (fun t ht => of_decide_eq_true (List.all_eq_true.1 (by kernel_rfl : Try.f4.params.toList.all (fun t => decide (t < Try.prog.types.size)) = true) t ht)) (by kernel_rfl) (by kernel_rfl) rfl hW' rfl rfl rfl hg⟩

theorem over : Rows.buildGapsRow.holds Try.pinned (OpenSpec.ofChange Rows.buildGapsSpec) :=
  OpenClaim.holds_of_wide 4 Try.f4 rfl rfl rfl rfl rfl rfl rfl ⟨rfl, rfl, rfl, rfl, rfl⟩ rfl rfl rfl rfl rfl (by kernel_rfl) Try.func4 (by kernel_rfl)
    (of_decide_eq_true (by kernel_rfl)) (by unfold Func.isWrapper; first | (rw [if_pos (by decide +kernel)]; kernel_rfl) | (rw [if_neg (by decide +kernel)]; exact ⟨rfl, rfl⟩))
    (fun os started H enc _ => lifted os started H enc)

/-- the statement -/
theorem proved : Rows.BuildGapsSaid :=
  over
end Go.Proofs.Ytabonallopdgdaa.buildGaps
