/- The assembler's laws: AsmAssembles. -/
import Derived.Test.YtjlofcnmehpbaaaDoorAsmQ
set_option linter.all false
namespace Go.Proofs
open Go.Eng Go.RowKit Go.MapKept
open Classical
set_option linter.unusedVariables false
set_option maxRecDepth 100000
set_option maxHeartbeats 4000000
abbrev endW : ByteArray := ⟨#[101, 110, 100]⟩
theorem ltrs_end : Ltrs endW := ⟨by decide, by decide, fun i hi => by
  have hi : i < 3 := hi
  match i, hi with
  | 0, _ => decide
  | 1, _ => decide
  | 2, _ => decide⟩
theorem numA_1 : numA ⟨#[49]⟩ 7 = 1 := by
  unfold numA
  rw [if_pos ⟨⟨by decide, by decide, fun h => absurd h (by decide), fun i hi => by
    have hi : i < 1 := hi
    obtain rfl : i = 0 := by omega
    decide⟩, by decide⟩]
  decide
theorem numA_0 : numA zeroB 65535 = 0 := by
  unfold numA
  rw [if_pos ⟨⟨by decide, by decide, fun h => absurd h (by decide), fun i hi => by
    have hi : i < 1 := hi
    obtain rfl : i = 0 := by omega
    decide⟩, by decide⟩]
  decide
theorem regA_1 : regA ⟨#[114, 49]⟩ = 1 := by
  unfold regA
  rw [if_pos (by decide)]
  exact numA_1
theorem live_1 : lnF [115, 101, 116, 32, 114, 49, 32, 101, 110, 100] = ⟨noB, [1, 1, 0], [1, 1, 2], endW, false⟩ := by
  have hw : wds [115, 101, 116, 32, 114, 49, 32, 101, 110, 100] = [⟨#[115, 101, 116]⟩, ⟨#[114, 49]⟩, endW] := by rfl
  have hc : codeI ⟨#[115, 101, 116]⟩ = 1 := by decide +kernel
  unfold lnF
  rw [if_neg (by decide), hw]
  unfold wlnF
  rw [if_neg (fun h => absurd h.1 (by decide)), if_neg (by decide), if_neg (by decide), show wat [⟨#[115, 101, 116]⟩, ⟨#[114, 49]⟩, endW] 0 = ⟨#[115, 101, 116]⟩ from rfl, hc, if_pos (by decide)]
  unfold insF
  rw [if_neg (by decide), if_neg (by decide), if_pos (by decide), if_neg (by decide), if_neg (fun h => absurd h.1 (by decide))]
  rw [show wat [⟨#[115, 101, 116]⟩, ⟨#[114, 49]⟩, endW] 1 = ⟨#[114, 49]⟩ from rfl, show wat [⟨#[115, 101, 116]⟩, ⟨#[114, 49]⟩, endW] 2 = endW from rfl, regA_1]
  unfold valF
  rw [if_pos ltrs_end]
  rfl
theorem live_2 : lnF [106, 117, 109, 112, 32, 101, 110, 100] = ⟨noB, [11, 0, 0], [1, 1, 2], endW, false⟩ := by
  have hw : wds [106, 117, 109, 112, 32, 101, 110, 100] = [⟨#[106, 117, 109, 112]⟩, endW] := by rfl
  have hc : codeI ⟨#[106, 117, 109, 112]⟩ = 11 := by decide +kernel
  unfold lnF
  rw [if_neg (by decide), hw]
  unfold wlnF
  rw [if_neg (fun h => absurd h.1 (by decide)), if_neg (by decide), if_neg (by decide), show wat [⟨#[106, 117, 109, 112]⟩, endW] 0 = ⟨#[106, 117, 109, 112]⟩ from rfl, hc, if_pos (by decide)]
  unfold insF
  rw [if_neg (by decide), if_pos (by decide), if_pos (by decide)]
  rw [show wat [⟨#[106, 117, 109, 112]⟩, endW] 1 = endW from rfl]
  unfold valF
  rw [if_pos ltrs_end]
  rfl
theorem live_3 : lnF [101, 110, 100, 58] = ⟨endW, [], [], noB, false⟩ := by
  have hw : wds [101, 110, 100, 58] = [⟨#[101, 110, 100, 58]⟩] := by rfl
  have he : (⟨#[101, 110, 100, 58]⟩ : ByteArray).extract 0 3 = endW := by decide
  unfold lnF
  rw [if_neg (by decide), hw]
  unfold wlnF
  rw [if_pos ⟨rfl, by decide, by decide, by show Ltrs ((⟨#[101, 110, 100, 58]⟩ : ByteArray).extract 0 3); rw [he]; exact ltrs_end⟩]
  show Ln.mk ((⟨#[101, 110, 100, 58]⟩ : ByteArray).extract 0 3) [] [] noB false = _
  rw [he]
theorem live_4 : lnF [115, 116, 111, 112] = ⟨noB, [0, 0, 0], [1, 1, 2], noB, false⟩ := by
  have hw : wds [115, 116, 111, 112] = [⟨#[115, 116, 111, 112]⟩] := by rfl
  have hc : codeI ⟨#[115, 116, 111, 112]⟩ = 0 := by decide +kernel
  have hz : ¬ Ltrs zeroB := fun h => absurd (h.all 0 (by decide)) (by decide)
  unfold lnF
  rw [if_neg (by decide), hw]
  unfold wlnF
  rw [if_neg (fun h => absurd h.2.2.1 (by decide)), if_neg (by decide), if_neg (by decide), show wat [⟨#[115, 116, 111, 112]⟩] 0 = ⟨#[115, 116, 111, 112]⟩ from rfl, hc, if_pos (by decide)]
  unfold insF
  rw [if_pos (by decide), if_pos (by decide)]
  unfold valF
  rw [if_neg hz, numA_0]
  rfl
abbrev liveS : List UInt8 := [115, 101, 116, 32, 114, 49, 32, 101, 110, 100, 10, 106, 117, 109, 112, 32, 101, 110, 100, 10, 101, 110, 100, 58, 10, 115, 116, 111, 112]
abbrev liveL : List Ln := [⟨noB, [1, 1, 0], [1, 1, 2], endW, false⟩, ⟨noB, [11, 0, 0], [1, 1, 2], endW, false⟩, ⟨endW, [], [], noB, false⟩, ⟨noB, [0, 0, 0], [1, 1, 2], noB, false⟩]
theorem live_lines : linesF liveS = (liveL, 0, 0) := by
  have hs : splL 10 liveS = [[115, 101, 116, 32, 114, 49, 32, 101, 110, 100], [106, 117, 109, 112, 32, 101, 110, 100], [101, 110, 100, 58], [115, 116, 111, 112]] := by rfl
  unfold linesF
  rw [hs]
  rw [lnsA, live_1, if_neg (by decide), if_neg (by decide), if_neg (by decide)]
  rw [lnsA, live_2, if_neg (by decide), if_neg (by decide), if_neg (by decide)]
  rw [lnsA, live_3, if_neg (by decide), if_neg (by decide), if_neg (by decide)]
  rw [lnsA, live_4, if_neg (by decide), if_neg (by decide), if_neg (by decide)]
  rw [lnsA]
  show nmsA liveL 0 liveL = (liveL, 0, 0)
  rw [nmsA, if_neg (by decide), nmsA, if_neg (by decide), nmsA, if_neg (by decide), nmsA, if_neg (by decide), nmsA]
theorem live_asm : asmF liveS = ([1, 1, 8, 0, 11, 0, 8, 0, 0, 0, 0, 0], 0, 0) := by
  unfold asmF
  rw [live_lines, if_pos rfl]
  decide +kernel
theorem Tryd.asmLive (L : List HP) (hM : Tryd.Mx L) : Con Tryd.prog 7 [] L (Is (.bool true) L) := by
  have ha := fun L h => Tryd.asmAssembleF ⟨liveS.toArray⟩ L (by decide) h
  rw [show (⟨liveS.toArray⟩ : ByteArray).data.toList = liveS from rfl, live_asm] at ha
  refine con_of Tryd.tysOk Tryd.func7 rfl rfl ?_
  conv => whnf
  repeat' (first
    | (first | ((with_reducible refine Br.tt ?_); conv => whnf) | ((with_reducible refine Br.yes ?_ ?_); (focus (first | (simp; done) | (simp; omega))); conv => whnf))
    | ((with_reducible refine Nd.mk ?_ ?_); (focus (first | omega | rfl | assumption | (simp; done))); conv => whnf)
    | ((with_reducible refine Cl.is (ha _ (by ((repeat (first | assumption | apply Tryd.mxCons | apply Tryd.mxApp)); done))) ?_); conv => whnf))
  all_goals (refine Is.ent ?_ ?_; (focus (exact Ent.rfl)); (exact Is.rfl))
theorem Tryd.asmAssemblesLaw (s : ByteArray) (L : List HP) (hM : Tryd.Mx L) : Con Tryd.prog 3 [.string s] L (Is (.bool true) L) := by
  have hlv := fun L h => Tryd.asmLive L h
  by_cases h3 : s.size ≤ 2000
  · have h1 := fun L h => Tryd.asmAssembleF s L (by omega) h
    have h2 := fun L => Tryd.refAssemble20 s L (by omega)
    generalize asmF s.data.toList = R at *
    obtain ⟨bs, ln, e⟩ := R
    dsimp only at h1 h2
    generalize bsL bs = B at *
    refine con_of Tryd.tysOk Tryd.func3 rfl rfl ?_
    conv => whnf
    repeat' (first
      | (first | ((with_reducible refine Br.tt ?_); conv => whnf) | ((with_reducible refine Br.dt ?_ ?_); (focus (first | assumption | omega)); conv => whnf) | ((with_reducible refine Br.df ?_ ?_); (focus (first | assumption | omega)); conv => whnf) | ((with_reducible refine Br.yes ?_ ?_); (focus (first | (simp; done) | (simp; omega))); conv => whnf))
      | ((with_reducible refine Nd.mk ?_ ?_); (focus (first | omega | rfl | assumption | (simp; done))); conv => whnf)
      | (first | ((with_reducible refine Cl.is (h1 _ (by ((repeat (first | assumption | apply Tryd.mxCons | apply Tryd.mxApp)); done))) ?_); conv => whnf) | ((with_reducible refine Cl.is (h2 _) ?_); conv => whnf) | ((with_reducible refine Cl.is (hlv _ (by ((repeat (first | assumption | apply Tryd.mxCons | apply Tryd.mxApp)); done))) ?_); conv => whnf)))
    all_goals first | (refine Is.ent ?_ ?_; (focus (exact Ent.rfl)); (exact Is.ttr (by first | assumption | omega))) | (exfalso; omega)
  · refine con_of Tryd.tysOk Tryd.func3 rfl rfl ?_
    conv => whnf
    repeat' (first
      | ((with_reducible refine Br.dt ?_ ?_); (focus (first | assumption | omega)); conv => whnf)
      | ((with_reducible refine Cl.is (hlv _ (by ((repeat (first | assumption | apply Tryd.mxCons | apply Tryd.mxApp)); done))) ?_); conv => whnf))
    all_goals first | (refine Is.ent ?_ ?_; (focus (exact Ent.rfl)); (exact Is.rfl)) | (exfalso; omega)
end Go.Proofs
