/-
  The law AsmBack of the seat: it returns true for every input, and each argument reads behind the call as it read before; the variables that its row lists stand as the row says. The card.
-/
import Derived.ProofKit
import Derived.LaidMore
import Derived.OpenShut
import Derived.Stop.Joined
import Derived.SevenTiedAt
import Derived.Test.YtjlofcnmehpbaaaDoorRows
import Derived.Test.YtjlofcnmehpbaaaDoorCards
import Derived.Test.YtjlofcnmehpbaaaDoorTie
import Derived.Test.YtjlofcnmehpbaaaDoorAsmX
import Derived.Test.YtjlofcnmehpbaaaDoorAsmOp
import Derived.Test.YtjlofcnmehpbaaaDoorLibShape
namespace Go.Proofs.YtjlofcnmehpbaaaDoor.asmBack
open Go.Eng Go.ChangeShapes Go.WideShapes Go.ChangeAt Go.RowKit
set_option linter.unusedVariables false
theorem own : ownKnob Tryd.prog.godebug = none := by kernel_rfl
set_option maxRecDepth 100000
theorem of_laid {W : World} (h : laidMetH Tryd.prog Rows.asmBackRow.laid W) : Tryd.Gk [old W] := by
  rw [MakeChecks.laidMetH_plain _ _ _ (by kernel_rfl)] at h
  obtain ⟨ps, hv, _⟩ := h
  exact Tryd.gk_of hv (by simp only [Rows.asmBackRow, List.mem_cons]; exact .inr (.inr (.inl rfl)))
theorem lifted (os : Os) (started : os.Started) (H : Type) (enc : TypeId × Value → H) :
    ReturnsInHanded {} Tryd.checked os 6 .any (fun w args => (Rows.asmBackSpec.pre enc Tryd.prog Tryd.f6 [] false w args ∧ laidMetH Tryd.prog Rows.asmBackRow.laid w) ∧ sizedMet enc Tryd.prog Tryd.f6 (OpenSpec.ofChange Rows.asmBackSpec) false w args) (Rows.asmBackSpec.post enc Tryd.prog Tryd.f6 false true false false) := by
  refine returnsInHanded_of_change_both (C := Tryd.checked) (X := fun w _ => laidMetH Tryd.prog Rows.asmBackRow.laid w) (fun _ _ _ hh h => h.of_heap hh) own started (by kernel_rfl) Tryd.func6
    (ChangeSpec.witness_shaped (enc := enc) (C := Tryd.checked) (os := os) (X := fun w _ => laidMetH Tryd.prog Rows.asmBackRow.laid w) false (World.laidAll Tryd.prog os Rows.asmBackRow.laid) #[.slice none 0 0] 8 (World.laidAll_os _ _ _) (World.shaped_of_ZipB (by kernel_rfl) (by kernel_rfl)) (by kernel_rfl) (by kernel_rfl) (by kernel_rfl)
      (by rw [MakeChecks.laidMetH_plain _ _ _ (by kernel_rfl)]; exact laidMet_laidAll _ (by kernel_rfl) (by kernel_rfl))) ?_
  intro W base args ds gs before hval0 hW _ _ hLS _
  obtain ⟨hL, hS⟩ := hLS
  have hG := of_laid hL
  have hM := Tryd.mx_of hS
  have hval : ∀ (j : Nat) t v, Tryd.f6.params[j]? = some t → args[j]? = some v → Value.okWide Tryd.prog W .any base t v := hval0
  have hW' := hW
  obtain ⟨p, q, hA0, hV, hpq, hfz, hnd⟩ := hW
  have hA : DataW.TrodAll enc Tryd.prog W 0 (fun _ => true) true Tryd.f6.params.toList args.toList ds p := hA0
  rw [Tryd.params6] at hA hval
  obtain ⟨v0, vs0, d0, ds0, p0, q0, hargs, rfl, hp0, h0, r0⟩ := trodAll_cons hA
  obtain ⟨rfl, rfl, _⟩ := trodAll_nil r0
  obtain rfl : args = #[v0] := by cases args; simp_all
  obtain ⟨rfl, rfl⟩ := trodVars_none hV
  obtain ⟨a0, c0, x0, rfl, hc0, hm0, hr0, hi0⟩ := arg_slice (E := inE) Tryd.underlying39 Tryd.opIns (by kernel_rfl) (hval 0 39 v0 rfl rfl) h0
  refine (law_calls (Tryd.asmBackLaw a0 c0 x0 [old W] hc0 hm0 hr0 hi0 hG hM)).mono fun e W' ⟨he, hg⟩ => ?_
  subst he
  exact ⟨_, rfl, post_law (P := Tryd.prog) (tb := 4) (by kernel_rfl) (by kernel_rfl) (by kernel_rfl) (fun t ht => of_decide_eq_true (List.all_eq_true.1 (by kernel_rfl : Tryd.f6.params.toList.all (fun t => decide (t < Tryd.prog.types.size)) = true) t ht)) (by kernel_rfl) (by kernel_rfl) rfl hW' rfl rfl rfl hg⟩

theorem over : Rows.asmBackRow.holds Tryd.pinned (OpenSpec.ofChange Rows.asmBackSpec) :=
  OpenClaim.holds_of_wide 6 Tryd.f6 rfl rfl rfl rfl rfl rfl rfl ⟨rfl, rfl, rfl, rfl, rfl⟩ rfl rfl rfl rfl rfl (by kernel_rfl) Tryd.func6 (by kernel_rfl)
    (of_decide_eq_true (by kernel_rfl)) (by unfold Func.isWrapper; first | (rw [if_pos (by decide +kernel)]; kernel_rfl) | (rw [if_neg (by decide +kernel)]; exact ⟨rfl, rfl⟩))
    (fun os started H enc _ => lifted os started H enc)
theorem looks (f : FuncId) (fn : Func) (hf : Tryd.pinned.checked.prog.funcNamed Rows.asmBackRow.func = some f) (hfn : Tryd.pinned.checked.prog.funcs[f]? = some fn) :
    true = Tryd.pinned.checked.prog.looks [] ∧ ∀ (j : Nat) t, fn.params[j]? = some t → Tryd.pinned.checked.prog.wantsStandIn t = false := by
  obtain rfl : f = 6 := Option.some.inj ((show Tryd.prog.funcNamed Rows.asmBackRow.func = some 6 by kernel_rfl).symm.trans hf) |>.symm
  obtain rfl : fn = Tryd.f6 := (Option.some.inj (Tryd.func6.symm.trans hfn)).symm
  refine ⟨by kernel_rfl, fun j t ht => ?_⟩
  have hm : t ∈ Tryd.f6.params.toList := by rw [← Array.getElem?_toList] at ht; exact List.mem_of_getElem? ht
  have := List.all_eq_true.1 (by kernel_rfl : Tryd.f6.params.toList.all (fun t => !Tryd.prog.wantsStandIn t) = true) t hm
  have this : Tryd.prog.wantsStandIn t = false := by simpa using this
  exact this

/-- the statement -/
theorem proved : Rows.AsmBackCardSaid :=
  Claim7.holds_tied_plain_at .later [] [.data, .data, .data, .data, .pinned] true (true, "f7be8374eee5c6b6c258e746556bf6b4f025ee3efc169f8fabcb6a9e8491e0f1") true over (fun _ h => by cases h) (by kernel_rfl) (fun _ h => by cases h) asmBack_row_tie rfl ⟨rfl, rfl⟩ (by kernel_rfl) rfl looks (by kernel_rfl)
end Go.Proofs.YtjlofcnmehpbaaaDoor.asmBack
