/- The assembler: all lines of a text: contracts. -/
import Derived.Test.YtloaknocdnpedaaDoorAsmM
set_option linter.all false
namespace Go.Proofs
open Go.Eng Go.RowKit Go.MapKept
open Classical
set_option linter.unusedVariables false
set_option maxRecDepth 100000
set_option maxHeartbeats 4000000
noncomputable def lkF (labs : List (ByteArray × Int)) (w : ByteArray) : Option Int := (labs.find? fun p => decide (p.1 = w)).map (·.2)
theorem lk_none {labs : List (ByteArray × Int)} {w : ByteArray} (h : lkF labs w = none) : ∀ p ∈ labs, p.1 ≠ w := by
  unfold lkF at h
  rw [Option.map_eq_none_iff, List.find?_eq_none] at h
  intro p hp e
  exact h p hp (decide_eq_true e)
theorem lk_some {labs : List (ByteArray × Int)} {w : ByteArray} {v : Int} (h : lkF labs w = some v) : ∃ j : Nat, labs[j]? = some (w, v) := by
  unfold lkF at h
  obtain ⟨p, hp, he⟩ := Option.map_eq_some_iff.1 h
  have h1 := List.find?_some hp
  have h2 := List.mem_of_find?_eq_some hp
  obtain ⟨j, hj⟩ := List.getElem?_of_mem h2
  have h3 : p.1 = w := of_decide_eq_true h1
  exact ⟨j, by rw [hj, ← h3, ← he]⟩
theorem Tryd.asmReadGood (o : Nat) (X : Aob) (s : ByteArray) (L : List HP) (hs : s.size ≤ 90000) (hM : Tryd.Mx L) (hb : X.bs.length ≤ 1024) (hu : X.uses.length ≤ 100000) (hg : (lnF s.data.toList).bad = false)
    (hlab : (lnF s.data.toList).lab ≠ noB → lkF X.labs (lnF s.data.toList).lab = none) (hlim : (lnF s.data.toList).lab = noB → X.bs.length + (lnZb (lnF s.data.toList)).length ≤ 1024) :
    Con Tryd.prog 45 [p64 o, .string s] (Tryd.asmH o X :: L) (Is (.tuple #[]) (Tryd.asmH o (rdX X (lnF s.data.toList)) :: L)) := by
  have hl := size_list s
  have hhd : s.data.toList.headD 0 = sAt s 0 := by
    show _ = s.data.toList.getD 0 0
    cases s.data.toList <;> rfl
  by_cases h0 : s.data.toList = [] ∨ (s.data.toList.headD 0).toNat = 35
  · have e : lnF s.data.toList = nilL := if_pos h0
    have e2 : rdX X nilL = X := by
      unfold rdX
      rw [if_pos (show nilL.lab = noB from rfl)]
      show Aob.mk (X.bs ++ []) X.labs (addU X noB _).uses X.line = X
      rw [List.append_nil]
      unfold addU
      rw [if_pos rfl]
    rw [e, e2]
    refine Tryd.asmReadNil o X s L ?_
    by_cases hz : s.size = 0
    · exact .inl hz
    · refine .inr ⟨by omega, ?_⟩
      rcases h0 with h0 | h0
      · rw [h0] at hl; exact absurd hl.symm hz
      · rw [← hhd]; exact h0
  · have e : lnF s.data.toList = wlnF (wds s.data.toList) := if_neg h0
    have hz : s.size ≠ 0 := fun h => h0 (.inl (List.eq_nil_of_length_eq_zero (by rw [hl]; exact h)))
    have hne : ¬ s = ⟨#[]⟩ := fun h => hz (by rw [h]; rfl)
    have h35 : ¬ ((sAt s 0).toNat : Int) = 35 := fun h => h0 (.inr (by rw [hhd]; omega))
    have hsp : ∀ L, Tryd.Mx L → Con Tryd.prog 44 [.string s, .string ⟨#[32]⟩] L (New strE 9 (wds s.data.toList) L) := fun L h => by
      have := Tryd.splitS s ⟨#[32]⟩ L (by omega) (by decide) h
      rw [split_any] at this
      exact this
    have n1 := wds_le s
    have n2 := wds_ge s.data.toList
    have n3 : ∀ i, ((wds s.data.toList).getD i strE.d).size ≤ 1000000 := fun i => by have := wat_le s i; show (wat _ _).size ≤ _; omega
    rw [e] at hg hlab hlim ⊢
    rw [wln_lab] at hg hlab hlim ⊢
    by_cases hA : (wds s.data.toList).length = 1 ∧ labP (wat (wds s.data.toList) 0)
    · rw [if_pos hA] at hlab hlim ⊢
      have hln := ltr_ne hA.2.2.2
      have := lk_none (hlab hln)
      unfold rdX
      rw [if_neg hln]
      exact Tryd.asmReadLab o X s _ _ L hne h35 (by omega) (by omega) n2 n3 rfl hsp hM hb hu hA this
    · rw [if_neg hA] at hg hlab hlim ⊢
      have hlb := byt_lab (wds s.data.toList)
      unfold rdX
      rw [if_pos hlb]
      exact Tryd.asmReadByt o X s _ _ L hne h35 (by omega) (by omega) n2 n3 rfl hsp hM hb hu hA hg (hlim hlb)
/-- why a line is wrong -/
noncomputable def rdE (X : Aob) (l : Ln) : Int := if l.bad = true then 3 else if l.lab ≠ noB ∧ lkF X.labs l.lab ≠ none then 14 else if l.lab = noB ∧ 1024 < X.bs.length + (lnZb l).length then 4 else 0
theorem lnZ_len : ∀ (ns ss : List Int), (lnZ ns ss).length ≤ 2 * ns.length
  | [], _ => by simp [lnZ]
  | n :: ns, [] => by simp [lnZ]
  | n :: ns, s :: ss => by
    have := lnZ_len ns ss
    simp only [lnZ, List.length_append, List.length_take, p2_len, List.length_cons]
    omega
theorem Tryd.asmReadWrong (o : Nat) (X : Aob) (s : ByteArray) (L : List HP) (hs : s.size ≤ 90000) (hM : Tryd.Mx L) (hb : X.bs.length ≤ 1024) (hu : X.uses.length ≤ 100000) (hE : rdE X (lnF s.data.toList) ≠ 0) :
    Con Tryd.prog 45 [p64 o, .string s] (Tryd.asmH o X :: L) (fun _ _ => False) (Tryd.PanX (rdE X (lnF s.data.toList)) (Tryd.asmL o X.line :: L)) := by
  have hl := size_list s
  have hhd : s.data.toList.headD 0 = sAt s 0 := by
    show _ = s.data.toList.getD 0 0
    cases s.data.toList <;> rfl
  have hok := ok_ln s.data.toList
  by_cases h0 : s.data.toList = [] ∨ (s.data.toList.headD 0).toNat = 35
  · have e : lnF s.data.toList = nilL := if_pos h0
    rw [e] at hE
    refine absurd ?_ hE
    unfold rdE
    rw [if_neg (by decide), if_neg (fun h => h.1 rfl), if_neg]
    rintro ⟨_, h⟩
    have : (lnZb nilL).length = 0 := rfl
    omega
  · have e : lnF s.data.toList = wlnF (wds s.data.toList) := if_neg h0
    have hz : s.size ≠ 0 := fun h => h0 (.inl (List.eq_nil_of_length_eq_zero (by rw [hl]; exact h)))
    have hne : ¬ s = ⟨#[]⟩ := fun h => hz (by rw [h]; rfl)
    have h35 : ¬ ((sAt s 0).toNat : Int) = 35 := fun h => h0 (.inr (by rw [hhd]; omega))
    have hsp : ∀ L, Tryd.Mx L → Con Tryd.prog 44 [.string s, .string ⟨#[32]⟩] L (New strE 9 (wds s.data.toList) L) := fun L h => by
      have := Tryd.splitS s ⟨#[32]⟩ L (by omega) (by decide) h
      rw [split_any] at this
      exact this
    have n1 := wds_le s
    have n2 := wds_ge s.data.toList
    have n3 : ∀ i, ((wds s.data.toList).getD i strE.d).size ≤ 1000000 := fun i => by have := wat_le s i; show (wat _ _).size ≤ _; omega
    rw [e] at hok hE ⊢
    rw [wln_lab] at hok hE ⊢
    by_cases hA : (wds s.data.toList).length = 1 ∧ labP (wat (wds s.data.toList) 0)
    · rw [if_pos hA] at hE ⊢
      have hln := ltr_ne hA.2.2.2
      generalize hnm : (wat (wds s.data.toList) 0).extract 0 ((wat (wds s.data.toList) 0).size - 1) = nm at *
      have hE14 : rdE X ⟨nm, [], [], noB, false⟩ = 14 ∧ lkF X.labs nm ≠ none := by
        unfold rdE at hE ⊢
        rw [if_neg (show ¬ (false = true) from by decide)] at hE ⊢
        by_cases hk : nm ≠ noB ∧ lkF X.labs nm ≠ none
        · rw [if_pos hk]; exact ⟨rfl, hk.2⟩
        · rw [if_neg hk, if_neg (fun h => hln h.1)] at hE
          exact absurd rfl hE
      obtain ⟨hE1, hE2⟩ := hE14
      rw [hE1]
      obtain ⟨v, hv⟩ := Option.ne_none_iff_exists'.1 hE2
      obtain ⟨j, hj⟩ := lk_some hv
      exact Tryd.asmReadTwice o X s _ _ L hne h35 (by omega) (by omega) n2 n3 rfl hsp hM hb hu hA j v (by rw [← hnm] at hj; exact hj)
    · rw [if_neg hA] at hok hE ⊢
      have hlb := byt_lab (wds s.data.toList)
      by_cases hg : (bytF (wds s.data.toList)).bad = true
      · have : rdE X (bytF (wds s.data.toList)) = 3 := if_pos hg
        rw [this]
        exact Tryd.asmReadBad o X s _ _ L hne h35 (by omega) (by omega) n2 n3 rfl hsp hM hb hu hA hg
      · have hg' : (bytF (wds s.data.toList)).bad = false := by simpa using hg
        unfold rdE at hE ⊢
        rw [if_neg hg, if_neg (fun h => h.1 hlb)] at hE ⊢
        by_cases h4 : (bytF (wds s.data.toList)).lab = noB ∧ 1024 < X.bs.length + (lnZb (bytF (wds s.data.toList))).length
        · rw [if_pos h4]
          refine Tryd.asmReadLim o X s _ _ L hne h35 (by omega) (by omega) n2 n3 rfl hsp hM hb hu hA hg' h4.2 ?_
          have := lnZ_len (bytF (wds s.data.toList)).nums (bytF (wds s.data.toList)).szs
          have := hok.most
          show (lnZ _ _).length ≤ 100
          omega
        · rw [if_neg h4] at hE
          exact absurd rfl hE
/-! all lines -/
inductive TxR where
  | done (bs : List UInt8) (labs : List (ByteArray × Int))
  | fail (line e : Int)
noncomputable def ptF (labs : List (ByteArray × Int)) : List UInt8 → List (ByteArray × Int × Int) → TxR
  | bs, [] => .done bs labs
  | bs, u :: r => match lkF labs u.1 with
    | none => .fail u.2.2 14
    | some v => ptF labs (lay bs u.2.1.toNat (p2 v)) r
noncomputable def txF : Aob → List (List UInt8) → TxR
  | X, [] => ptF X.labs X.bs X.uses
  | X, l :: r => if rdE ⟨X.bs, X.labs, X.uses, X.line + 1⟩ (lnF l) ≠ 0 then .fail (X.line + 1) (rdE ⟨X.bs, X.labs, X.uses, X.line + 1⟩ (lnF l)) else txF (rdX ⟨X.bs, X.labs, X.uses, X.line + 1⟩ (lnF l)) r
def Tryd.asmB (o : Nat) (bs : List UInt8) (labs : List (ByteArray × Int)) : HP := fun e h => ∃ X : Aob, (X.bs = bs ∧ X.labs = labs) ∧ Tryd.asmH o X e h
theorem Tryd.asmKeep {o : Nat} {X : Aob} {L : List HP} : Ent (Tryd.asmH o X :: L) (Tryd.asmB o X.bs X.labs :: L) := fun w s => s.weak 0 rfl (fun h hh => ⟨X, ⟨rfl, rfl⟩, hh⟩)
def Tryd.TxP (o : Nat) (L : List HP) : TxR → Value → List HP → Prop
  | .done bs labs => Is (.int .i64 0) (Tryd.asmB o bs labs :: L)
  | .fail ln e => Is (.int .i64 e) (Tryd.asmL o ln :: L)
/-- the uses' places are right -/
def usOk (n : Nat) (us : List (ByteArray × Int × Int)) : Prop := ∀ u ∈ us, 0 ≤ u.2.1 ∧ u.2.1 + 2 ≤ n
theorem rdX_line (X : Aob) (l : Ln) : (rdX X l).line = X.line := by unfold rdX; split <;> rfl
theorem rdX_uses (X : Aob) (l : Ln) : (rdX X l).uses.length ≤ X.uses.length + 1 := by
  unfold rdX
  split
  · exact addU_len X _ _
  · show X.uses.length ≤ _; omega
theorem rdE_zero {X : Aob} {l : Ln} (h : rdE X l = 0) : l.bad = false ∧ (l.lab ≠ noB → lkF X.labs l.lab = none) ∧ (l.lab = noB → X.bs.length + (lnZb l).length ≤ 1024) := by
  unfold rdE at h
  by_cases h1 : l.bad = true
  · rw [if_pos h1] at h; exact absurd h (by decide)
  · rw [if_neg h1] at h
    by_cases h2 : l.lab ≠ noB ∧ lkF X.labs l.lab ≠ none
    · rw [if_pos h2] at h; exact absurd h (by decide)
    · rw [if_neg h2] at h
      by_cases h3 : l.lab = noB ∧ 1024 < X.bs.length + (lnZb l).length
      · rw [if_pos h3] at h; exact absurd h (by decide)
      · refine ⟨by simpa using h1, fun h4 => Classical.byContradiction fun h5 => h2 ⟨h4, h5⟩, fun h4 => ?_⟩
        have := fun h => h3 ⟨h4, h⟩
        exact Nat.le_of_not_lt this
theorem rdX_bs {X : Aob} {l : Ln} (hb : X.bs.length ≤ 1024) (h : rdE X l = 0) : (rdX X l).bs.length ≤ 1024 := by
  have h3 := (rdE_zero h).2.2
  unfold rdX
  by_cases hl : l.lab = noB
  · rw [if_pos hl]
    have := h3 hl
    show (X.bs ++ lnZb l).length ≤ 1024
    rw [List.length_append]
    exact this
  · rw [if_neg hl]; exact hb
theorem rdX_us {X : Aob} {l : Ln} (hok : LnOk l) (hz : (lnZb l).length = (szF l).toNat) (h2 : l.nam ≠ noB → 2 ≤ szF l) (hu : usOk X.bs.length X.uses) : usOk (rdX X l).bs.length (rdX X l).uses := by
  unfold rdX
  by_cases hl : l.lab = noB
  · rw [if_pos hl]
    show usOk (X.bs ++ lnZb l).length (addU X l.nam (szF l - 2)).uses
    intro u hu2
    rw [List.length_append, hz]
    have hb := sz_bd hok
    unfold addU at hu2
    split at hu2
    · have := hu u hu2
      omega
    · rename_i hn
      rcases List.mem_append.1 hu2 with h | h
      · have := hu u h; omega
      · rw [List.mem_singleton.1 h]
        have := h2 hn
        show 0 ≤ (X.bs.length : Int) + (szF l - 2) ∧ (X.bs.length : Int) + (szF l - 2) + 2 ≤ _
        omega
  · rw [if_neg hl]; exact hu
theorem lnZ_sz : ∀ (ns ss : List Int), ns.length = ss.length → (∀ x ∈ ss, x = 1 ∨ x = 2) → ((lnZ ns ss).length : Int) = sumI ss
  | [], [], _, _ => rfl
  | n :: ns, s :: ss, hl, h => by
    have ih := lnZ_sz ns ss (by simpa using hl) (fun x hx => h x (by simp [hx]))
    have hs := h s (by simp)
    simp only [lnZ, List.length_append, List.length_take, p2_len, sumI]
    omega
theorem lnZb_sz {l : Ln} (h : LnOk l) : (lnZb l).length = (szF l).toNat := by
  have := lnZ_sz l.nums l.szs h.len h.sz
  show (lnZ l.nums l.szs).length = (sumI l.szs).toNat
  omega
end Go.Proofs
