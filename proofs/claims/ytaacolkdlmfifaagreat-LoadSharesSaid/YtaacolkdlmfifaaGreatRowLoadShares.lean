/-
  The law LoadShares of the seat: it returns true for every input, and each argument reads behind the call as it read before. No condition.
-/
import Derived.Test.YtaacolkdlmfifaaGreatRows
import Derived.Test.YtaacolkdlmfifaaGreatLoadG
import Derived.Test.YtaacolkdlmfifaaGreatConfOp
namespace Go.Proofs.YtaacolkdlmfifaaGreat.loadShares
open Go.Eng Go.ChangeShapes Go.WideShapes Go.ChangeAt Go.RowKit
set_option linter.unusedVariables false
theorem own : ownKnob Tryz.prog.godebug = none := by kernel_rfl
set_option maxRecDepth 100000 in
theorem lifted (os : Os) (started : os.Started) (H : Type) (enc : TypeId × Value → H) :
    ReturnsInHanded {} Tryz.checked os 4 .any (Rows.loadSharesSpec.pre6 enc Tryz.prog Tryz.f4 Rows.loadSharesRow.domain false) (Rows.loadSharesSpec.post enc Tryz.prog Tryz.f4 false true false false) := by
  refine returnsInHanded_of_change (C := Tryz.checked) own started (by kernel_rfl) Tryz.func4
    (ChangeSpec.witness6 (enc := enc) (C := Tryz.checked) false ⟨#[], #[((Tryz.prog.info? 26).bind (·.zero)).getD .nilIface], []⟩ 8 (by kernel_rfl) (by kernel_rfl) (by kernel_rfl) (by kernel_rfl)) ?_
  intro W base args ds gs before hval0 hW hcnd _
  have hval : ∀ (j : Nat) t v, Tryz.f4.params[j]? = some t → args[j]? = some v → Value.okWide Tryz.prog W .any base t v := hval0
  have hW' := hW
  obtain ⟨p, q, hA0, hV, hpq, hfz, hnd⟩ := hW
  have hA : DataW.TrodAll enc Tryz.prog W 0 (fun _ => true) true Tryz.f4.params.toList args.toList ds p := hA0
  rw [Tryz.params4] at hA hval
  obtain ⟨v0, vs0, d0, ds0, p0, q0, hargs, rfl, hp0, h0, r0⟩ := trodAll_cons hA
  obtain ⟨rfl, rfl, _⟩ := trodAll_nil r0
  obtain rfl : args = #[v0] := by cases args; simp_all
  obtain ⟨rfl, rfl⟩ := trodVars_none hV
  obtain ⟨y0, rfl, i0⟩ := arg_struct Tryz.underlying26 Tryz.opCfg (hval 0 26 v0 rfl rfl) h0
  refine (law_calls (Tryz.loadSharesLaw y0 [old W] i0.1 i0.2.1 i0.2.2.1 i0.2.2.2)).mono fun e W' ⟨he, hg⟩ => ?_
  subst he
  exact ⟨_, rfl, post_law (P := Tryz.prog) (tb := 4) (by kernel_rfl) (by kernel_rfl) (by kernel_rfl) (fun t ht => of_decide_eq_true (List.all_eq_true.1 (by kernel_rfl : Tryz.f4.params.toList.all (fun t => decide (t < Tryz.prog.types.size)) = true) t ht)) (by kernel_rfl) (by kernel_rfl) rfl hW' rfl rfl rfl hg⟩

theorem over : Rows.loadSharesRow.holds Tryz.pinned (OpenSpec.ofChange Rows.loadSharesSpec) :=
  OpenClaim.holds_of_wide 4 Tryz.f4 rfl rfl rfl rfl rfl rfl rfl ⟨rfl, rfl, rfl, rfl, rfl⟩ rfl rfl rfl rfl rfl (by kernel_rfl) Tryz.func4 (by kernel_rfl)
    (of_decide_eq_true (by kernel_rfl)) (by unfold Func.isWrapper; first | (rw [if_pos (by decide +kernel)]; kernel_rfl) | (rw [if_neg (by decide +kernel)]; exact ⟨rfl, rfl⟩))
    (fun os started H enc _ => lifted os started H enc)

/-- the statement -/
theorem proved : Rows.LoadSharesSaid :=
  over
end Go.Proofs.YtaacolkdlmfifaaGreat.loadShares
