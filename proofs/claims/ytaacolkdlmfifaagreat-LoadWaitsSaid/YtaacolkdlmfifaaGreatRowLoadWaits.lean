/-
  The law LoadWaits of the seat: it returns true for every input, and each argument reads behind the call as it read before. No condition.
-/
import Derived.Test.YtaacolkdlmfifaaGreatRows
import Derived.Test.YtaacolkdlmfifaaGreatLoadE
import Derived.Test.YtaacolkdlmfifaaGreatConfOp
namespace Go.Proofs.YtaacolkdlmfifaaGreat.loadWaits
open Go.Eng Go.ChangeShapes Go.WideShapes Go.ChangeAt Go.RowKit
set_option linter.unusedVariables false
theorem own : ownKnob Tryz.prog.godebug = none := by kernel_rfl
set_option maxRecDepth 100000 in
theorem lifted (os : Os) (started : os.Started) (H : Type) (enc : TypeId × Value → H) :
    ReturnsInHanded {} Tryz.checked os 3 .any (Rows.loadWaitsSpec.pre6 enc Tryz.prog Tryz.f3 Rows.loadWaitsRow.domain false) (Rows.loadWaitsSpec.post enc Tryz.prog Tryz.f3 false true false false) := by
  refine returnsInHanded_of_change (C := Tryz.checked) own started (by kernel_rfl) Tryz.func3
    (ChangeSpec.witness6 (enc := enc) (C := Tryz.checked) false ⟨#[], #[((Tryz.prog.info? 26).bind (·.zero)).getD .nilIface, .int .i64 0, .int .i64 0], []⟩ 8 (by kernel_rfl) (by kernel_rfl) (by kernel_rfl) (by kernel_rfl)) ?_
  intro W base args ds gs before hval0 hW hcnd _
  have hval : ∀ (j : Nat) t v, Tryz.f3.params[j]? = some t → args[j]? = some v → Value.okWide Tryz.prog W .any base t v := hval0
  have hW' := hW
  obtain ⟨p, q, hA0, hV, hpq, hfz, hnd⟩ := hW
  have hA : DataW.TrodAll enc Tryz.prog W 0 (fun _ => true) true Tryz.f3.params.toList args.toList ds p := hA0
  rw [Tryz.params3] at hA hval
  obtain ⟨v0, vs0, d0, ds0, p0, q0, hargs, rfl, hp0, h0, r0⟩ := trodAll_cons hA
  obtain ⟨v1, vs1, d1, ds1, p1, q1, rfl, rfl, hp1, h1, r1⟩ := trodAll_cons r0
  obtain ⟨v2, vs2, d2, ds2, p2, q2, rfl, rfl, hp2, h2, r2⟩ := trodAll_cons r1
  obtain ⟨rfl, rfl, _⟩ := trodAll_nil r2
  obtain rfl : args = #[v0, v1, v2] := by cases args; simp_all
  obtain ⟨rfl, rfl⟩ := trodVars_none hV
  obtain ⟨y0, rfl, i0⟩ := arg_struct Tryz.underlying26 Tryz.opCfg (hval 0 26 v0 rfl rfl) h0
  obtain ⟨n1, rfl, b1⟩ := arg_i64 (show Tryz.prog.underlying 3 = some (.int .i64) from by kernel_rfl) (hval 1 3 v1 rfl rfl) h1
  obtain ⟨n2, rfl, b2⟩ := arg_i64 (show Tryz.prog.underlying 3 = some (.int .i64) from by kernel_rfl) (hval 2 3 v2 rfl rfl) h2
  refine (law_calls (Tryz.loadWaitsLaw y0 n1 n2 [old W] i0.1 b1 b2 i0.2.1 i0.2.2.1 i0.2.2.2)).mono fun e W' ⟨he, hg⟩ => ?_
  subst he
  exact ⟨_, rfl, post_law (P := Tryz.prog) (tb := 4) (by kernel_rfl) (by kernel_rfl) (by kernel_rfl) (fun t ht => of_decide_eq_true (List.all_eq_true.1 (by kernel_rfl : Tryz.f3.params.toList.all (fun t => decide (t < Tryz.prog.types.size)) = true) t ht)) (by kernel_rfl) (by kernel_rfl) rfl hW' rfl rfl rfl hg⟩

theorem over : Rows.loadWaitsRow.holds Tryz.pinned (OpenSpec.ofChange Rows.loadWaitsSpec) :=
  OpenClaim.holds_of_wide 3 Tryz.f3 rfl rfl rfl rfl rfl rfl rfl ⟨rfl, rfl, rfl, rfl, rfl⟩ rfl rfl rfl rfl rfl (by kernel_rfl) Tryz.func3 (by kernel_rfl)
    (of_decide_eq_true (by kernel_rfl)) (by unfold Func.isWrapper; first | (rw [if_pos (by decide +kernel)]; kernel_rfl) | (rw [if_neg (by decide +kernel)]; exact ⟨rfl, rfl⟩))
    (fun os started H enc _ => lifted os started H enc)

/-- the statement -/
theorem proved : Rows.LoadWaitsSaid :=
  over
end Go.Proofs.YtaacolkdlmfifaaGreat.loadWaits
