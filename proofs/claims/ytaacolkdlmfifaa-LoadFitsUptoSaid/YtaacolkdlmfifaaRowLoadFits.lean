/-
  The law LoadFits of the seat: it returns true for every input of bounded bulk, and each argument reads behind the call as it read before.
-/
import Derived.Test.YtaacolkdlmfifaaRows
import Derived.JoinedCond
import Derived.Test.YtaacolkdlmfifaaLoadF
import Derived.Test.YtaacolkdlmfifaaLoadBulk
namespace Go.Proofs.Ytaacolkdlmfifaa.loadFits
open Go.Eng Go.ChangeShapes Go.WideShapes Go.ChangeAt Go.RowKit
set_option linter.unusedVariables false
theorem own : ownKnob Try.prog.godebug = none := by kernel_rfl
set_option maxRecDepth 100000 in
theorem lifted (os : Os) (started : os.Started) (H : Type) (enc : TypeId × Value → H) (F : Stop.Interp) :
    ReturnsInHanded {} Try.checked os 4 .any ((Rows.OpenSpec.upto Rows.loadFitsSpec).pre6 enc Try.prog Try.f4 Rows.loadFitsUptoRow.domain false) (((Rows.OpenSpec.upto Rows.loadFitsSpec).at F).post enc Try.prog Try.f4 false true false false) := by
  refine returnsInHanded_of_cond (C := Try.checked) (s := Rows.OpenSpec.upto Rows.loadFitsSpec) (k := Rows.uptoSmall) rfl own started (by kernel_rfl) Try.func4
    (OpenSpec.witness (enc := enc) (C := Try.checked) (s := Rows.OpenSpec.upto Rows.loadFitsSpec) (k := Rows.uptoSmall) rfl false ⟨#[], #[((Try.prog.info? 30).bind (·.zero)).getD .nilIface, ((Try.prog.info? 32).bind (·.zero)).getD .nilIface], []⟩ 8 (by kernel_rfl) (by kernel_rfl) (by kernel_rfl) (by kernel_rfl)
      (x := ([.agg [.lit (.int .i64 0), .nil, .nil, .nil], .agg [.lit (.int .i64 0), .lit (.int .i64 0), .lit (.int .i64 0)]], [], [])) (by kernel_rfl) rfl (by kernel_rfl)) ?_
  intro W base args ds gs before hval0 hW _ hk _
  have hval : ∀ (j : Nat) t v, Try.f4.params[j]? = some t → args[j]? = some v → Value.okWide Try.prog W .any base t v := hval0
  have hW' := hW
  obtain ⟨p, q, hA0, hV, hpq, hfz, hnd⟩ := hW
  have hA : DataW.TrodAll enc Try.prog W 0 (fun _ => true) true Try.f4.params.toList args.toList ds p := hA0
  rw [Try.params4] at hA hval
  obtain ⟨v0, vs0, d0, ds0, p0, q0, hargs, rfl, hp0, h0, r0⟩ := trodAll_cons hA
  obtain ⟨v1, vs1, d1, ds1, p1, q1, rfl, rfl, hp1, h1, r1⟩ := trodAll_cons r0
  obtain ⟨rfl, rfl, _⟩ := trodAll_nil r1
  obtain rfl : args = #[v0, v1] := by cases args; simp_all
  obtain ⟨rfl, rfl⟩ := trodVars_none hV
  obtain ⟨y0, rfl, i0⟩ := arg_struct Try.underlying30 Try.opCfg (hval 0 30 v0 rfl rfl) h0
  obtain ⟨y1, rfl, i1⟩ := arg_struct Try.underlying32 Try.opSlt (hval 1 32 v1 rfl rfl) h1
  have hb : y0.ss.length ≤ 1048576 := by
    obtain ⟨n0, hn0⟩ := h0
    have h5 : y0.ss.length ≤ Rows.uptoBulk d0 := Try.cfg_bulk (C := y0) hn0
    have h6 := of_decide_eq_true hk
    simp only [Rows.uptoBulkAll, List.append_nil] at h6
    omega
  change Calls Try.prog 4 _ W fun e W' => ∃ v, e = .returned v ∧ Rows.loadFitsSpec.post enc Try.prog Try.f4 false true false false W _ v W'
  refine (law_calls (Try.loadFitsLaw y0 y1 [old W] i0.1 i1 hb i0.2.1 i0.2.2.1 i0.2.2.2)).mono fun e W' ⟨he, hg⟩ => ?_
  subst he
  exact ⟨_, rfl, post_law (P := Try.prog) (tb := 4) (by kernel_rfl) (by kernel_rfl) (by kernel_rfl) (fun t ht => of_decide_eq_true (List.all_eq_true.1 (by kernel_rfl : Try.f4.params.toList.all (fun t => decide (t < Try.prog.types.size)) = true) t ht)) (by kernel_rfl) (by kernel_rfl) rfl hW' rfl rfl rfl hg⟩

theorem over : Rows.loadFitsUptoRow.holds Try.pinned (Rows.OpenSpec.upto Rows.loadFitsSpec) :=
  OpenClaim.holds_of_cond 4 Try.f4 rfl rfl rfl rfl rfl rfl rfl ⟨rfl, rfl, rfl, rfl, rfl⟩ rfl rfl rfl rfl rfl (by kernel_rfl) Try.func4 (by kernel_rfl)
    (of_decide_eq_true (by kernel_rfl)) (by unfold Func.isWrapper; first | (rw [if_pos (by decide +kernel)]; kernel_rfl) | (rw [if_neg (by decide +kernel)]; exact ⟨rfl, rfl⟩))
    (fun os started H enc _ F => lifted os started H enc F)

/-- the statement -/
theorem proved : Rows.LoadFitsUptoSaid :=
  over
end Go.Proofs.Ytaacolkdlmfifaa.loadFits
