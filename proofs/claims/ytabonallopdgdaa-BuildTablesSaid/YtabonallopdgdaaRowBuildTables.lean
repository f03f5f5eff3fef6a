/-
  The law BuildTables of the seat: it returns true for every input, and each argument reads behind the call as it read before. No condition.
-/
import Derived.Test.YtabonallopdgdaaRows
import Derived.Test.YtabonallopdgdaaBuildH
import Derived.Test.YtabonallopdgdaaBuildOp
namespace Go.Proofs.Ytabonallopdgdaa.buildTables
open Go.Eng Go.ChangeShapes Go.WideShapes Go.ChangeAt Go.RowKit
set_option linter.unusedVariables false
theorem own : ownKnob Try.prog.godebug = none := by kernel_rfl
set_option maxRecDepth 100000 in
theorem lifted (os : Os) (started : os.Started) (H : Type) (enc : TypeId × Value → H) :
    ReturnsInHanded {} Try.checked os 3 .any (Rows.buildTablesSpec.pre6 enc Try.prog Try.f3 Rows.buildTablesRow.domain false) (Rows.buildTablesSpec.post enc Try.prog Try.f3 false true false false) := by
  refine returnsInHanded_of_change (C := Try.checked) own started (by kernel_rfl) Try.func3
    (ChangeSpec.witness6 (enc := enc) (C := Try.checked) false ⟨#[], #[.slice none 0 0], []⟩ 8 (by kernel_rfl) (by kernel_rfl) (by kernel_rfl) (by kernel_rfl)) ?_
  intro W base args ds gs before hval0 hW hcnd _
  have hval : ∀ (j : Nat) t v, Try.f3.params[j]? = some t → args[j]? = some v → Value.okWide Try.prog W .any base t v := hval0
  have hW' := hW
  obtain ⟨p, q, hA0, hV, hpq, hfz, hnd⟩ := hW
  have hA : DataW.TrodAll enc Try.prog W 0 (fun _ => true) true Try.f3.params.toList args.toList ds p := hA0
  rw [Try.params3] at hA hval
  obtain ⟨v0, vs0, d0, ds0, p0, q0, hargs, rfl, hp0, h0, r0⟩ := trodAll_cons hA
  obtain ⟨rfl, rfl, _⟩ := trodAll_nil r0
  obtain rfl : args = #[v0] := by cases args; simp_all
  obtain ⟨rfl, rfl⟩ := trodVars_none hV
  obtain ⟨a0, c0, x0, rfl, hc0, hm0, hr0, hi0⟩ := arg_slice (E := wsE) Try.underlying22 Try.opWish (by kernel_rfl) (hval 0 22 v0 rfl rfl) h0
  refine (law_calls (Try.buildTablesLaw a0 c0 x0 [old W] hc0 hm0 hr0)).mono fun e W' ⟨he, hg⟩ => ?_
  subst he
  exact ⟨_, rfl, post_law (P := Try.prog) (tb := 4) (by kernel_rfl) (by kernel_rfl) (by kernel_rfl) (fun t ht => of_decide_eq_true (List.all_eq_true.1 (by kernel_rfl : Try.f3.params.toList.all (fun t => decide (t < Try.prog.types.size)) = true) t ht)) (by kernel_rfl) (by kernel_rfl) rfl hW' rfl rfl rfl hg⟩

theorem over : Rows.buildTablesRow.holds Try.pinned (OpenSpec.ofChange Rows.buildTablesSpec) :=
  OpenClaim.holds_of_wide 3 Try.f3 rfl rfl rfl rfl rfl rfl rfl ⟨rfl, rfl, rfl, rfl, rfl⟩ rfl rfl rfl rfl rfl (by kernel_rfl) Try.func3 (by kernel_rfl)
    (of_decide_eq_true (by kernel_rfl)) (by unfold Func.isWrapper; first | (rw [if_pos (by decide +kernel)]; kernel_rfl) | (rw [if_neg (by decide +kernel)]; exact ⟨rfl, rfl⟩))
    (fun os started H enc _ => lifted os started H enc)

/-- the statement -/
theorem proved : Rows.BuildTablesSaid :=
  over
end Go.Proofs.Ytabonallopdgdaa.buildTables
