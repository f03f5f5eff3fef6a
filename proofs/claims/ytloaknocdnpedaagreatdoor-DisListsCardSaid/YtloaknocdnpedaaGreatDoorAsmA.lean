/- Lines of a program's text: plain. -/
import Derived.Test.YtloaknocdnpedaaGreatDoorDec
set_option linter.all false
namespace Go.Proofs
open Go.Eng
open Classical
set_option linter.unusedVariables false
set_option maxRecDepth 100000
set_option maxHeartbeats 4000000
abbrev ltr (x : UInt8) : Prop := 97 ≤ x.toNat ∧ x.toNat ≤ 122
structure Ltrs (w : ByteArray) : Prop where
  ge : 1 ≤ w.size
  le : w.size ≤ 16
  all : ∀ i, i < w.size → ltr (sAt w i)
structure NumA (s : ByteArray) : Prop where
  ne : 1 ≤ s.size
  le : s.size ≤ 5
  lead : 2 ≤ s.size → (sAt s 0).toNat ≠ 48
  dig : ∀ i, i < s.size → isDig (sAt s i)
noncomputable def numA (s : ByteArray) (most : Int) : Int := if NumA s ∧ numV s.data.toList ≤ most then numV s.data.toList else -1
theorem numA_ge {s : ByteArray} (h : NumA s) : 0 ≤ numV s.data.toList := by
  have hl := size_list s
  have key : ∀ k, k ≤ s.size → 0 ≤ numV (s.data.toList.take k) := by
    intro k
    induction k with
    | zero => intro _; exact Int.le_refl _
    | succ k ih =>
      intro hk
      have h1 := ih (by omega)
      have hd := h.dig k (by omega)
      rw [numV_take (by omega)]
      omega
  have := key s.size (Nat.le_refl _)
  rw [← hl, List.take_length] at this
  exact this
theorem numA_P (s : ByteArray) {m : Int} (hm : 0 ≤ m) : -1 ≤ numA s m ∧ numA s m ≤ m := by
  unfold numA
  by_cases h : NumA s ∧ numV s.data.toList ≤ m
  · rw [if_pos h]
    have := numA_ge h.1
    omega
  · rw [if_neg h]; omega
noncomputable def regA (s : ByteArray) : Int := if s.size = 2 ∧ (sAt s 0).toNat = 114 then numA (s.extract 1 s.size) 7 else -1
theorem regA_P (s : ByteArray) : -1 ≤ regA s ∧ regA s ≤ 7 := by
  unfold regA
  split
  · exact numA_P _ (by omega)
  · omega
def codeL : List ByteArray := [⟨#[115, 116, 111, 112]⟩, ⟨#[115, 101, 116]⟩, ⟨#[109, 111, 118, 101]⟩, ⟨#[97, 100, 100]⟩, ⟨#[115, 117, 98]⟩, ⟨#[97, 110, 100]⟩, ⟨#[120, 111, 114]⟩, ⟨#[114, 101, 97, 100]⟩, ⟨#[119, 114, 105, 116, 101]⟩, ⟨#[114, 101, 97, 100, 50]⟩, ⟨#[119, 114, 105, 116, 101, 50]⟩, ⟨#[106, 117, 109, 112]⟩, ⟨#[122, 101, 114, 111]⟩, ⟨#[108, 101, 115, 115]⟩, ⟨#[99, 97, 108, 108]⟩, ⟨#[114, 101, 115, 116]⟩]
def codeI (w : ByteArray) : Int := Lib.idxOfS codeL w
abbrev codeN (c : Nat) : ByteArray := codeL.getD c ByteArray.empty
theorem code_at {c : Nat} (h : c < 16) : codeI (codeN c) = c := by
  have key : ∀ i : Fin 16, codeI (codeN i.val) = (i.val : Int) := by decide +kernel
  exact key ⟨c, h⟩
theorem code_cases (w : ByteArray) : codeI w = -1 ∧ (∀ c, c < 16 → codeN c ≠ w) ∨ ∃ c : Nat, c < 16 ∧ codeI w = c ∧ codeN c = w := by
  by_cases hx : ∃ c, c < 16 ∧ codeN c = w
  · obtain ⟨c, hc, rfl⟩ := hx
    exact .inr ⟨c, hc, code_at hc, rfl⟩
  · refine .inl ⟨?_, fun c hc e => hx ⟨c, hc, e⟩⟩
    have h := Lib.idxOfS_miss codeL 16 w (fun j hj e => hx ⟨j, hj, e⟩)
    exact h
theorem code_iff {w : ByteArray} {c : Nat} (h : c < 16) : codeN c = w ↔ codeI w = c := by
  constructor
  · rintro rfl; exact code_at h
  · intro e
    rcases code_cases w with ⟨h0, _⟩ | ⟨c', _, h1, h2⟩
    · omega
    · have : c = c' := by omega
      rw [this]; exact h2
theorem codeI_P (w : ByteArray) : -1 ≤ codeI w ∧ codeI w ≤ 15 := by
  rcases code_cases w with ⟨h0, _⟩ | ⟨c', _, h1, h2⟩ <;> omega
/-- a line: a label, or the parts that it makes -/
structure Ln where
  lab : ByteArray
  nums : List Int
  szs : List Int
  nam : ByteArray
  bad : Bool
abbrev noB : ByteArray := ⟨#[]⟩
def badL : Ln := ⟨noB, [], [], noB, true⟩
def nilL : Ln := ⟨noB, [], [], noB, false⟩
noncomputable def valF (l : Ln) (w : ByteArray) : Ln :=
  if Ltrs w then ⟨l.lab, l.nums ++ [0], l.szs ++ [2], w, l.bad⟩ else ⟨l.lab, l.nums ++ [numA w 65535], l.szs ++ [2], l.nam, l.bad || decide (numA w 65535 < 0)⟩
abbrev wds (l : List UInt8) : List ByteArray := (splL 32 l).map bsL
abbrev wat (w : List ByteArray) (i : Nat) : ByteArray := w.getD i strE.d
def zeroB : ByteArray := ⟨#[48]⟩
noncomputable def insF (c : Int) (w : List ByteArray) : Ln :=
  if c = 0 ∨ c = 15 then (if w.length = 1 then valF ⟨noB, [c, 0], [1, 1], noB, false⟩ zeroB else badL)
  else if c = 11 then (if w.length = 2 then valF ⟨noB, [c, 0], [1, 1], noB, false⟩ (wat w 1) else badL)
  else if w.length = 3 then
    (if 2 ≤ c ∧ c ≤ 10 then ⟨noB, [c, regA (wat w 1), regA (wat w 2)], [1, 1, 2], noB, decide (regA (wat w 1) < 0) || decide (regA (wat w 2) < 0)⟩
     else if c = 14 ∧ Ltrs (wat w 2) then badL
     else valF ⟨noB, [c, regA (wat w 1)], [1, 1], noB, decide (regA (wat w 1) < 0)⟩ (wat w 2))
  else badL
def byteB : ByteArray := ⟨#[98, 121, 116, 101]⟩
def twoB : ByteArray := ⟨#[116, 119, 111]⟩
def labP (w : ByteArray) : Prop := 1 < w.size ∧ (sAt w (w.size - 1)).toNat = 58 ∧ Ltrs (w.extract 0 (w.size - 1))
noncomputable def wlnF (w : List ByteArray) : Ln :=
  if w.length = 1 ∧ labP (wat w 0) then ⟨(wat w 0).extract 0 ((wat w 0).size - 1), [], [], noB, false⟩
  else if wat w 0 = byteB ∧ w.length = 2 then ⟨noB, [numA (wat w 1) 255], [1], noB, decide (numA (wat w 1) 255 < 0)⟩
  else if wat w 0 = twoB ∧ w.length = 2 then valF nilL (wat w 1)
  else if 0 ≤ codeI (wat w 0) then insF (codeI (wat w 0)) w else badL
noncomputable def lnF (l : List UInt8) : Ln := if l = [] ∨ (l.headD 0).toNat = 35 then nilL else wlnF (wds l)
/-- what a line is made of: at most three parts, of one or two bytes -/
structure LnOk (l : Ln) : Prop where
  len : l.nums.length = l.szs.length
  most : l.nums.length ≤ 3
  num : ∀ x ∈ l.nums, -1 ≤ x ∧ x ≤ 65535
  sz : ∀ x ∈ l.szs, x = 1 ∨ x = 2
  nam : l.nam.size ≤ 16
  nam1 : l.nam ≠ noB → Ltrs l.nam ∧ 1 ≤ l.nums.length
  lab : l.lab.size ≤ 16
  lab1 : l.lab ≠ noB → Ltrs l.lab ∧ l.nums = [] ∧ l.nam = noB
theorem ok_nil : LnOk nilL := ⟨rfl, by decide, by simp [nilL], by simp [nilL], by decide, fun h => absurd rfl h, by decide, fun h => absurd rfl h⟩
theorem ok_bad : LnOk badL := ⟨rfl, by decide, by simp [badL], by simp [badL], by decide, fun h => absurd rfl h, by decide, fun h => absurd rfl h⟩
theorem ok_val {l : Ln} (h : LnOk l) (hl : l.nums.length ≤ 2) (hlab : l.lab = noB) (w : ByteArray) : LnOk (valF l w) := by
  unfold valF
  by_cases hw : Ltrs w
  · rw [if_pos hw]
    refine ⟨by simp [h.len], by simp; omega, fun x hx => ?_, fun x hx => ?_, hw.le, fun _ => ⟨hw, by simp⟩, h.lab, fun h' => absurd hlab h'⟩
    · rcases List.mem_append.1 hx with hx | hx
      · exact h.num x hx
      · rw [List.mem_singleton.1 hx]; omega
    · rcases List.mem_append.1 hx with hx | hx
      · exact h.sz x hx
      · rw [List.mem_singleton.1 hx]; exact .inr rfl
  · rw [if_neg hw]
    refine ⟨by simp [h.len], by simp; omega, fun x hx => ?_, fun x hx => ?_, h.nam, fun h' => ⟨(h.nam1 h').1, by simp⟩, h.lab, fun h' => absurd hlab h'⟩
    · rcases List.mem_append.1 hx with hx | hx
      · exact h.num x hx
      · rw [List.mem_singleton.1 hx]; exact numA_P w (by omega)
    · rcases List.mem_append.1 hx with hx | hx
      · exact h.sz x hx
      · rw [List.mem_singleton.1 hx]; exact .inr rfl
theorem ok_mk {nums szs : List Int} {b : Bool} (hl : nums.length = szs.length) (h3 : nums.length ≤ 3) (hn : ∀ x ∈ nums, -1 ≤ x ∧ x ≤ 65535) (hs : ∀ x ∈ szs, x = 1 ∨ x = 2) : LnOk ⟨noB, nums, szs, noB, b⟩ :=
  ⟨hl, h3, hn, hs, Nat.zero_le _, fun h => absurd rfl h, Nat.zero_le _, fun h => absurd rfl h⟩
theorem ok_base {c x : Int} {b : Bool} (hc : 0 ≤ c ∧ c ≤ 15) (hx : -1 ≤ x ∧ x ≤ 7) : LnOk ⟨noB, [c, x], [1, 1], noB, b⟩ :=
  ok_mk rfl (by simp) (fun y hy => by simp only [List.mem_cons, List.not_mem_nil, or_false] at hy; rcases hy with rfl | rfl <;> omega) (fun y hy => by simp only [List.mem_cons, List.not_mem_nil, or_false] at hy; omega)
theorem ok_ins {c : Int} (hc : 0 ≤ c ∧ c ≤ 15) (w : List ByteArray) : LnOk (insF c w) := by
  have r1 := regA_P (wat w 1)
  have r2 := regA_P (wat w 2)
  unfold insF
  split
  · split
    · exact ok_val (ok_base hc (by omega)) (by simp) rfl _
    · exact ok_bad
  · split
    · split
      · exact ok_val (ok_base hc (by omega)) (by simp) rfl _
      · exact ok_bad
    · split
      · split
        · exact ok_mk rfl (by simp) (fun y hy => by simp only [List.mem_cons, List.not_mem_nil, or_false] at hy; rcases hy with rfl | rfl | rfl <;> omega) (fun y hy => by simp only [List.mem_cons, List.not_mem_nil, or_false] at hy; omega)
        · split
          · exact ok_bad
          · exact ok_val (ok_base hc r1) (by simp) rfl _
      · exact ok_bad
theorem ok_wln (w : List ByteArray) : LnOk (wlnF w) := by
  unfold wlnF
  split
  · rename_i h
    have h2 := h.2.2.2
    exact ⟨rfl, by simp, by simp, by simp, Nat.zero_le _, fun h => absurd rfl h, h2.le, fun _ => ⟨h2, rfl, rfl⟩⟩
  · split
    · have := numA_P (wat w 1) (m := 255) (by omega)
      exact ok_mk rfl (by simp) (fun y hy => by simp only [List.mem_cons, List.not_mem_nil, or_false] at hy; subst hy; omega) (fun y hy => by simp only [List.mem_cons, List.not_mem_nil, or_false] at hy; omega)
    · split
      · exact ok_val ok_nil (by simp [nilL]) rfl _
      · split
        · rename_i h
          have := codeI_P (wat w 0)
          exact ok_ins (by omega) w
        · exact ok_bad
theorem ok_ln (l : List UInt8) : LnOk (lnF l) := by
  unfold lnF
  split
  · exact ok_nil
  · exact ok_wln _
end Go.Proofs
