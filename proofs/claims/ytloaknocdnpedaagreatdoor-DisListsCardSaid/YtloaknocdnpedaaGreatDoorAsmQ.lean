/- The assembler and the document's one: plain. -/
import Derived.Test.YtloaknocdnpedaaGreatDoorAsmA
import Derived.Test.YtloaknocdnpedaaGreatDoorEngPan
import Derived.Shelf.Strings.FuncGrows
import Derived.Laws.RangeAny
import Derived.Tactics2
import Derived.Test.YtloaknocdnpedaaGreatDoorAsmF
import Derived.Test.YtloaknocdnpedaaGreatDoorCode
import Derived.Test.YtloaknocdnpedaaGreatDoorEngMap
import Derived.Test.YtloaknocdnpedaaGreatDoorEngRec
import Derived.Defers
import Derived.Recover
set_option linter.all false
namespace Go.Proofs
open Go.Eng Go.RowKit
open Classical
set_option linter.unusedVariables false
set_option maxRecDepth 100000
set_option maxHeartbeats 4000000
abbrev qI' (n : Int) : Value := .int .i64 n
/-! names -/
def notLow (x : Nat) : Bool := decide (x < 97) || decide (122 < x)
theorem sAt_idx {s : ByteArray} {k : Nat} (h : k < s.size) : s[k]'h = sAt s k := by
  show _ = s.data.toList.getD k 0
  have hk : k < s.data.toList.length := by rw [size_list]; exact h
  rw [List.getD_eq_getElem?_getD, List.getElem?_eq_getElem hk]
  rfl
theorem idx_names (s : ByteArray) : ∀ (f pos : Nat), s.size ≤ pos + f → (0 ≤ Lib.idxFuncFrom notLow true s f pos ↔ ∃ i, pos ≤ i ∧ i < s.size ∧ ¬ ltr (sAt s i))
  | 0, pos, h => ⟨fun h' => absurd h' (by show ¬ (0 : Int) ≤ -1; decide), fun ⟨i, h1, h2, _⟩ => by omega⟩
  | f + 1, pos, h => by
    unfold Lib.idxFuncFrom
    by_cases hp : pos < s.size
    · rw [if_pos hp]
      by_cases ha : (sAt s pos).toNat < 128
      · have hd := decode_ascii s pos hp (by rw [sAt_idx hp]; exact ha)
        rw [hd, sAt_idx hp]
        by_cases hl : ltr (sAt s pos)
        · have hn : notLow (sAt s pos).toNat = false := by
            unfold notLow
            rw [decide_eq_false (by have := hl.1; omega), decide_eq_false (by have := hl.2; omega)]
            rfl
          rw [hn, if_neg (by decide), idx_names s f (pos + 1) (by omega)]
          constructor
          · rintro ⟨i, h1, h2, h3⟩; exact ⟨i, by omega, h2, h3⟩
          · rintro ⟨i, h1, h2, h3⟩
            refine ⟨i, ?_, h2, h3⟩
            rcases Nat.eq_or_lt_of_le h1 with h4 | h4
            · subst h4; exact absurd hl h3
            · omega
        · have hn : notLow (sAt s pos).toNat = true := by
            unfold notLow
            by_cases h1 : (sAt s pos).toNat < 97
            · rw [decide_eq_true h1]; rfl
            · rw [decide_eq_true (show 122 < (sAt s pos).toNat from Nat.lt_of_not_le fun h2 => hl ⟨by omega, h2⟩), Bool.or_true]
          rw [hn, if_pos rfl]
          exact ⟨fun _ => ⟨pos, Nat.le_refl _, hp, hl⟩, fun _ => by omega⟩
      · have hd := decode_high s pos hp (by rw [sAt_idx hp]; omega)
        have hn : notLow (Utf8.decode s pos).1 = true := by
          unfold notLow
          rw [decide_eq_true (show 122 < (Utf8.decode s pos).1 by omega), Bool.or_true]
        rw [hn, if_pos rfl]
        exact ⟨fun _ => ⟨pos, Nat.le_refl _, hp, fun hl => by have := hl.2; omega⟩, fun _ => by omega⟩
    · rw [if_neg hp]
      exact ⟨fun h' => absurd h' (by decide), fun ⟨i, h1, h2, _⟩ => by omega⟩
/-! giving up -/
/-! numbers -/
noncomputable def numX (s : ByteArray) : Int := if NumA s then numV s.data.toList else 0
theorem numX_eq {s : ByteArray} {m : Int} (h : 0 ≤ numA s m) : numX s = numA s m := by
  unfold numX
  unfold numA at h ⊢
  by_cases hc : NumA s ∧ numV s.data.toList ≤ m
  · rw [if_pos hc, if_pos hc.1]
  · rw [if_neg hc] at h; omega
theorem reg_cases (s : ByteArray) : (0 ≤ regA s ∧ s.size = 2 ∧ (sAt s 0).toNat = 114 ∧ 0 ≤ numA (s.extract 1 s.size) 7 ∧ regA s = numA (s.extract 1 s.size) 7) ∨ (¬ 0 ≤ regA s ∧ (s.size ≠ 2 ∨ (s.size = 2 ∧ (sAt s 0).toNat ≠ 114) ∨ (s.size = 2 ∧ (sAt s 0).toNat = 114 ∧ ¬ 0 ≤ numA (s.extract 1 s.size) 7))) := by
  unfold regA
  by_cases h1 : s.size = 2
  · by_cases h2 : (sAt s 0).toNat = 114
    · rw [if_pos ⟨h1, h2⟩]
      by_cases h3 : 0 ≤ numA (s.extract 1 s.size) 7
      · exact .inl ⟨h3, h1, h2, h3, rfl⟩
      · exact .inr ⟨h3, .inr (.inr ⟨h1, h2, h3⟩)⟩
    · rw [if_neg (fun h => h2 h.2)]
      exact .inr ⟨by decide, .inr (.inl ⟨h1, h2⟩)⟩
  · rw [if_neg (fun h => h1 h.1)]
    exact .inr ⟨by decide, .inl h1⟩
end Go.Proofs
set_option linter.all false
namespace Go.Proofs
open Go.Eng Go.RowKit Go.MapKept
open Classical
set_option linter.unusedVariables false
set_option maxRecDepth 100000
set_option maxHeartbeats 4000000
theorem Bt.shr8i {x : Int} {j : IntKind} {K : Int → Prop} (k : K (x / 256)) : Bt (x.fdiv (2 ^ (min (Int.toNat 8) j.bits))) K := Bt.is (by
  have : (2 : Int) ^ (min (Int.toNat 8) j.bits) = 256 := by cases j <;> rfl
  rw [this, Int.fdiv_eq_ediv_of_nonneg x (by omega)]) k
/-! what was made so far -/
def useE : Enc (ByteArray × Int × Int) := ⟨3, fun y => [.string y.1, .int .i64 y.2.1, .int .i64 y.2.2], (⟨#[]⟩, 0, 0), fun _ => rfl, by omega, fun _ => rfl⟩
structure Aob where
  bs : List UInt8
  labs : List (ByteArray × Int)
  uses : List (ByteArray × Int × Int)
  line : Int
def labV (l : List (ByteArray × Int)) : List (Value × Value) := l.map fun p => (.string p.1, .int .i64 p.2)
abbrev Tryz.asmC (a : Option Addr) (n c mb : Nat) (a' : Option Addr) (n' c' : Nat) (l : Int) : List Value := [.slice a n c, .map (some mb), .slice a' n' c', .int .i64 l]
/-! values -/
end Go.Proofs
set_option linter.all false
namespace Go.Proofs
open Go.Eng Go.RowKit Go.MapKept
open Classical
set_option linter.unusedVariables false
set_option maxRecDepth 100000
set_option maxHeartbeats 4000000
theorem ltr_num {w : ByteArray} (h : Ltrs w) (m : Int) : numA w m = -1 := by
  unfold numA
  rw [if_neg]
  rintro ⟨h1, _⟩
  have h2 := h.all 0 (by have := h.ge; omega)
  have h3 := h1.dig 0 (by have := h.ge; omega)
  have h4 := h2.1
  have h5 := h3.2
  omega
theorem zero_val (l : Ln) : valF l zeroB = ⟨l.lab, l.nums ++ [0], l.szs ++ [2], l.nam, l.bad⟩ := by
  have hz : ¬ Ltrs zeroB := fun h => by have := (h.all 0 (by decide)).1; revert this; decide
  have hn : numA zeroB 65535 = 0 := by
    unfold numA
    rw [if_pos]
    · decide
    · refine ⟨⟨by decide, by decide, fun h => absurd h (by decide), fun i hi => ?_⟩, by decide⟩
      have : i = 0 := by have : zeroB.size = 1 := rfl
                         omega
      subst this
      decide
  unfold valF
  rw [if_neg hz, hn, show decide ((0 : Int) < 0) = false from rfl, Bool.or_false]
theorem val_cases (l : Ln) (w : ByteArray) : (Ltrs w ∧ valF l w = ⟨l.lab, l.nums ++ [0], l.szs ++ [2], w, l.bad⟩) ∨ (¬ Ltrs w ∧ 0 ≤ numA w 65535 ∧ valF l w = ⟨l.lab, l.nums ++ [numA w 65535], l.szs ++ [2], l.nam, l.bad⟩) ∨ (¬ Ltrs w ∧ ¬ 0 ≤ numA w 65535 ∧ (valF l w).bad = true) := by
  by_cases h : Ltrs w
  · exact .inl ⟨h, if_pos h⟩
  · by_cases hn : 0 ≤ numA w 65535
    · refine .inr (.inl ⟨h, hn, ?_⟩)
      unfold valF
      rw [if_neg h, decide_eq_false (by omega), Bool.or_false]
    · refine .inr (.inr ⟨h, hn, ?_⟩)
      unfold valF
      rw [if_neg h, decide_eq_true (by omega), Bool.or_true]
def addU (X : Aob) (w : ByteArray) (k : Int) : Aob := if w = noB then X else ⟨X.bs, X.labs, X.uses ++ [(w, (X.bs.length : Int) + k, X.line)], X.line⟩
theorem ltr_ne {w : ByteArray} (h : Ltrs w) : w ≠ noB := fun e => by have := h.ge; rw [e] at this; exact absurd this (by decide)
/-- what an instruction is made of -/
inductive InsR (c : Nat) (ws : List ByteArray) : Ln → Prop where
  | none (h : c = 0 ∨ c = 15) (hl : ws.length = 1) : InsR c ws ⟨noB, [(c : Int), 0, 0], [1, 1, 2], noB, false⟩
  | none' (h : c = 0 ∨ c = 15) (hl : ws.length ≠ 1) : InsR c ws badL
  | jmpL (h : c = 11) (hl : ws.length = 2) (hw : Ltrs (wat ws 1)) : InsR c ws ⟨noB, [(c : Int), 0, 0], [1, 1, 2], wat ws 1, false⟩
  | jmpN (h : c = 11) (hl : ws.length = 2) (hw : ¬ Ltrs (wat ws 1)) (hn : 0 ≤ numA (wat ws 1) 65535) : InsR c ws ⟨noB, [(c : Int), 0, numA (wat ws 1) 65535], [1, 1, 2], noB, false⟩
  | jmpB (l : Ln) (h : c = 11) (hl : ws.length = 2) (hw : ¬ Ltrs (wat ws 1)) (hn : ¬ 0 ≤ numA (wat ws 1) 65535) (hb : l.bad = true) : InsR c ws l
  | jmp' (h : c = 11) (hl : ws.length ≠ 2) : InsR c ws badL
  | reg (h : 2 ≤ c ∧ c ≤ 10) (hl : ws.length = 3) (h1 : 0 ≤ regA (wat ws 1)) (h2 : 0 ≤ regA (wat ws 2)) : InsR c ws ⟨noB, [(c : Int), regA (wat ws 1), regA (wat ws 2)], [1, 1, 2], noB, false⟩
  | regB (l : Ln) (h : 2 ≤ c ∧ c ≤ 10) (hl : ws.length = 3) (h1 : ¬ 0 ≤ regA (wat ws 1)) (hb : l.bad = true) : InsR c ws l
  | regC (l : Ln) (h : 2 ≤ c ∧ c ≤ 10) (hl : ws.length = 3) (h1 : 0 ≤ regA (wat ws 1)) (h2 : ¬ 0 ≤ regA (wat ws 2)) (hb : l.bad = true) : InsR c ws l
  | call (h : c = 14) (hl : ws.length = 3) (h1 : 0 ≤ regA (wat ws 1)) (h2 : 0 ≤ numA (wat ws 2) 65535) : InsR c ws ⟨noB, [(c : Int), regA (wat ws 1), numA (wat ws 2) 65535], [1, 1, 2], noB, false⟩
  | callB (l : Ln) (h : c = 14) (hl : ws.length = 3) (h1 : ¬ 0 ≤ regA (wat ws 1)) (hb : l.bad = true) : InsR c ws l
  | callC (l : Ln) (h : c = 14) (hl : ws.length = 3) (h1 : 0 ≤ regA (wat ws 1)) (h2 : ¬ 0 ≤ numA (wat ws 2) 65535) (hb : l.bad = true) : InsR c ws l
  | valL (h : c = 1 ∨ c = 12 ∨ c = 13) (hl : ws.length = 3) (h1 : 0 ≤ regA (wat ws 1)) (hw : Ltrs (wat ws 2)) : InsR c ws ⟨noB, [(c : Int), regA (wat ws 1), 0], [1, 1, 2], wat ws 2, false⟩
  | valN (h : c = 1 ∨ c = 12 ∨ c = 13) (hl : ws.length = 3) (h1 : 0 ≤ regA (wat ws 1)) (hw : ¬ Ltrs (wat ws 2)) (hn : 0 ≤ numA (wat ws 2) 65535) : InsR c ws ⟨noB, [(c : Int), regA (wat ws 1), numA (wat ws 2) 65535], [1, 1, 2], noB, false⟩
  | valB (l : Ln) (h : c = 1 ∨ c = 12 ∨ c = 13) (hl : ws.length = 3) (h1 : ¬ 0 ≤ regA (wat ws 1)) (hb : l.bad = true) : InsR c ws l
  | valC (l : Ln) (h : c = 1 ∨ c = 12 ∨ c = 13) (hl : ws.length = 3) (h1 : 0 ≤ regA (wat ws 1)) (hw : ¬ Ltrs (wat ws 2)) (hn : ¬ 0 ≤ numA (wat ws 2) 65535) (hb : l.bad = true) : InsR c ws l
  | long (h : 1 ≤ c ∧ c ≤ 14 ∧ c ≠ 11) (hl : ws.length ≠ 3) : InsR c ws badL
theorem insR_of {c : Nat} (hc : c < 16) (ws : List ByteArray) : InsR c ws (insF c ws) := by
  unfold insF
  by_cases h0 : c = 0 ∨ c = 15
  · rw [if_pos (by omega)]
    by_cases hl : ws.length = 1
    · rw [if_pos hl, zero_val]; exact .none h0 hl
    · rw [if_neg hl]; exact .none' h0 hl
  · rw [if_neg (by omega)]
    by_cases h11 : c = 11
    · rw [if_pos (by omega)]
      by_cases hl : ws.length = 2
      · rw [if_pos hl]
        rcases val_cases ⟨noB, [(c : Int), 0], [1, 1], noB, false⟩ (wat ws 1) with ⟨h1, h2⟩ | ⟨h1, h2, h3⟩ | ⟨h1, h2, h3⟩
        · rw [h2]; exact .jmpL h11 hl h1
        · rw [h3]; exact .jmpN h11 hl h1 h2
        · exact .jmpB _ h11 hl h1 h2 h3
      · rw [if_neg hl]; exact .jmp' h11 hl
    · rw [if_neg (by omega)]
      by_cases hl : ws.length = 3
      · rw [if_pos hl]
        by_cases hrg : 2 ≤ c ∧ c ≤ 10
        · rw [if_pos (by omega)]
          by_cases h1 : 0 ≤ regA (wat ws 1)
          · by_cases h2 : 0 ≤ regA (wat ws 2)
            · rw [show (decide (regA (wat ws 1) < 0) || decide (regA (wat ws 2) < 0)) = false from by rw [decide_eq_false (by omega), decide_eq_false (by omega)]; rfl]
              exact .reg hrg hl h1 h2
            · exact .regC _ hrg hl h1 h2 (by show (decide _ || decide _) = true; rw [decide_eq_true (show regA (wat ws 2) < 0 by omega), Bool.or_true])
          · exact .regB _ hrg hl h1 (by show (decide _ || decide _) = true; rw [decide_eq_true (show regA (wat ws 1) < 0 by omega)]; rfl)
        · rw [if_neg (by omega)]
          by_cases h14 : c = 14
          · by_cases hlt : Ltrs (wat ws 2)
            · rw [if_pos ⟨by omega, hlt⟩]
              by_cases h1 : 0 ≤ regA (wat ws 1)
              · exact .callC _ h14 hl h1 (by rw [ltr_num hlt]; decide) rfl
              · exact .callB _ h14 hl h1 rfl
            · rw [if_neg (fun h => hlt h.2)]
              by_cases h1 : 0 ≤ regA (wat ws 1)
              · rw [show decide (regA (wat ws 1) < 0) = false from decide_eq_false (by omega)]
                rcases val_cases ⟨noB, [(c : Int), regA (wat ws 1)], [1, 1], noB, false⟩ (wat ws 2) with ⟨h2, h3⟩ | ⟨h2, h3, h4⟩ | ⟨h2, h3, h4⟩
                · exact absurd h2 hlt
                · rw [h4]; exact .call h14 hl h1 h3
                · exact .callC _ h14 hl h1 h3 h4
              · refine .callB _ h14 hl h1 ?_
                unfold valF
                rw [if_neg hlt, decide_eq_true (show regA (wat ws 1) < 0 by omega)]
                rfl
          · rw [if_neg (by omega)]
            have hc3 : c = 1 ∨ c = 12 ∨ c = 13 := by omega
            by_cases h1 : 0 ≤ regA (wat ws 1)
            · rw [show decide (regA (wat ws 1) < 0) = false from decide_eq_false (by omega)]
              rcases val_cases ⟨noB, [(c : Int), regA (wat ws 1)], [1, 1], noB, false⟩ (wat ws 2) with ⟨h2, h3⟩ | ⟨h2, h3, h4⟩ | ⟨h2, h3, h4⟩
              · rw [h3]; exact .valL hc3 hl h1 h2
              · rw [h4]; exact .valN hc3 hl h1 h2 h3
              · exact .valC _ hc3 hl h1 h2 h3 h4
            · refine .valB _ hc3 hl h1 ?_
              rw [show decide (regA (wat ws 1) < 0) = true from decide_eq_true (by omega)]
              unfold valF
              split <;> rfl
      · rw [if_neg hl]; exact .long (by omega) hl
end Go.Proofs
set_option linter.all false
namespace Go.Proofs
open Go.Eng Go.RowKit Go.MapKept
open Classical
set_option linter.unusedVariables false
set_option maxRecDepth 100000
set_option maxHeartbeats 4000000
end Go.Proofs
set_option linter.all false
namespace Go.Proofs
open Go.Eng Go.RowKit Go.MapKept
open Classical
set_option linter.unusedVariables false
set_option maxRecDepth 100000
set_option maxHeartbeats 4000000
def lnZ : List Int → List Int → List UInt8
  | n :: ns, s :: ss => (p2 n).take s.toNat ++ lnZ ns ss
  | _, _ => []
abbrev lnZb (l : Ln) : List UInt8 := lnZ l.nums l.szs
/-- a line that is no label -/
noncomputable def bytF (w : List ByteArray) : Ln :=
  if wat w 0 = byteB ∧ w.length = 2 then ⟨noB, [numA (wat w 1) 255], [1], noB, decide (numA (wat w 1) 255 < 0)⟩
  else if wat w 0 = twoB ∧ w.length = 2 then valF nilL (wat w 1)
  else if 0 ≤ codeI (wat w 0) then insF (codeI (wat w 0)) w else badL
theorem codeI_byte : codeI byteB = -1 := by decide +kernel
theorem codeI_two : codeI twoB = -1 := by decide +kernel
theorem two_byte : twoB ≠ byteB := by decide
theorem insR_sz {c : Nat} {ws : List ByteArray} {l : Ln} (h : InsR c ws l) (hg : l.bad = false) : ∃ x n, l.nums = [(c : Int), x, n] ∧ l.szs = [1, 1, 2] ∧ l.nums.getD 1 0 = x ∧ l.nums.getD 2 0 = n ∧ mayI c x n := by
  cases h
  case none h hl => exact ⟨0, 0, rfl, rfl, rfl, rfl, by omega⟩
  case none' h hl => cases hg
  case jmpL h hl hw => exact ⟨0, 0, rfl, rfl, rfl, rfl, by omega⟩
  case jmpN h hl hw hn => exact ⟨0, _, rfl, rfl, rfl, rfl, by have := numA_P (wat ws 1) (m := 65535) (by omega); omega⟩
  case jmpB => simp_all
  case jmp' => cases hg
  case reg h hl h1 h2 => exact ⟨_, _, rfl, rfl, rfl, rfl, by have := regA_P (wat ws 1); have := regA_P (wat ws 2); omega⟩
  case regB => simp_all
  case regC => simp_all
  case call h hl h1 h2 => exact ⟨_, _, rfl, rfl, rfl, rfl, by have := regA_P (wat ws 1); have := numA_P (wat ws 2) (m := 65535) (by omega); omega⟩
  case callB => simp_all
  case callC => simp_all
  case valL h hl h1 hw => exact ⟨_, 0, rfl, rfl, rfl, rfl, by have := regA_P (wat ws 1); omega⟩
  case valN h hl h1 hw hn => exact ⟨_, _, rfl, rfl, rfl, rfl, by have := regA_P (wat ws 1); have := numA_P (wat ws 2) (m := 65535) (by omega); omega⟩
  case valB => simp_all
  case valC => simp_all
  case long => cases hg
end Go.Proofs
set_option linter.all false
namespace Go.Proofs
open Go.Eng Go.RowKit Go.MapKept
open Classical
set_option linter.unusedVariables false
set_option maxRecDepth 100000
set_option maxHeartbeats 4000000
theorem suf_58 (w : ByteArray) : Lib.hasSuffix w.data.toList [58] = decide (1 ≤ w.size ∧ (sAt w (w.size - 1)).toNat = 58) := by
  have hl := size_list w
  by_cases h : w.data.toList = []
  · have h0 : w.size = 0 := by rw [← hl, h]; rfl
    rw [h, decide_eq_false (by omega)]
    rfl
  · obtain ⟨xs, x, e⟩ := snoc_of h
    have hs : w.size = xs.length + 1 := by rw [← hl, e, List.length_append]; rfl
    have hx : sAt w (w.size - 1) = x := by
      show w.data.toList.getD (w.size - 1) 0 = x
      rw [e, hs]
      simp [List.getD]
    rw [hx, e]
    unfold Lib.hasSuffix List.isSuffixOf
    rw [List.reverse_append]
    simp only [List.reverse_cons, List.reverse_nil, List.nil_append, List.cons_append, List.isPrefixOf, Bool.and_true]
    by_cases h58 : x = 58
    · subst h58; rw [decide_eq_true ⟨by omega, rfl⟩]; rfl
    · have hn : ¬ x.toNat = 58 := fun h => h58 (UInt8.toNat_inj.1 (by rw [h]; rfl))
      rw [decide_eq_false (fun h => hn h.2)]
      simpa using fun h => h58 h.symm
theorem trim_58 (w : ByteArray) (h : Lib.hasSuffix w.data.toList [58] = true) : (⟨(Lib.trimSuffix w.data.toList [58]).toArray⟩ : ByteArray) = w.extract 0 (w.size - 1) := by
  unfold Lib.trimSuffix
  rw [if_pos h, size_list]
  exact (ext_pre w.data.toList (w.size - 1)).symm
theorem addU_mk (X : Aob) (w : ByteArray) (k : Int) : addU X w k = ⟨X.bs, X.labs, (addU X w k).uses, X.line⟩ := by
  unfold addU
  split <;> rfl
theorem addU_len (X : Aob) (w : ByteArray) (k : Int) : (addU X w k).uses.length ≤ X.uses.length + 1 := by
  unfold addU
  split
  · omega
  · simp
/-- what a line turns -/
def rdX (X : Aob) (l : Ln) : Aob := if l.lab = noB then ⟨X.bs ++ lnZb l, X.labs, (addU X l.nam (szF l - 2)).uses, X.line⟩ else ⟨X.bs, X.labs ++ [(l.lab, (X.bs.length : Int))], X.uses, X.line⟩
theorem wln_lab (ws : List ByteArray) : wlnF ws = if ws.length = 1 ∧ labP (wat ws 0) then ⟨(wat ws 0).extract 0 ((wat ws 0).size - 1), [], [], noB, false⟩ else bytF ws := rfl
theorem byt_lab (ws : List ByteArray) : (bytF ws).lab = noB := by
  have hv : ∀ l w, (valF l w).lab = l.lab := fun l w => by unfold valF; split <;> rfl
  unfold bytF
  split
  · rfl
  · split
    · rw [hv]; rfl
    · split
      · unfold insF
        split
        · split
          · rw [hv]
          · rfl
        · split
          · split
            · rw [hv]
            · rfl
          · split
            · split
              · rfl
              · split
                · rfl
                · rw [hv]
            · rfl
      · rfl
end Go.Proofs
set_option linter.all false
namespace Go.Proofs
open Go.Eng Go.RowKit Go.MapKept
open Classical
set_option linter.unusedVariables false
set_option maxRecDepth 100000
set_option maxHeartbeats 4000000
theorem Sm.run' {P : Program} {s : Sem Value} {v : Value} {L : List HP} {K : Value → List HP → Prop} (h : ∀ w, s.run P w = .ok v w) (k : K v L) : Sm P s L K := ⟨fun w sw => ⟨v, w, L, h w, sw, k⟩⟩
end Go.Proofs
set_option linter.all false
namespace Go.Proofs
open Go.Eng Go.RowKit Go.MapKept
open Classical
set_option linter.unusedVariables false
set_option maxRecDepth 100000
set_option maxHeartbeats 4000000
noncomputable def lkF (labs : List (ByteArray × Int)) (w : ByteArray) : Option Int := (labs.find? fun p => decide (p.1 = w)).map (·.2)
theorem lk_none {labs : List (ByteArray × Int)} {w : ByteArray} (h : lkF labs w = none) : ∀ p ∈ labs, p.1 ≠ w := by
  unfold lkF at h
  rw [Option.map_eq_none_iff, List.find?_eq_none] at h
  intro p hp e
  exact h p hp (decide_eq_true e)
theorem lk_some {labs : List (ByteArray × Int)} {w : ByteArray} {v : Int} (h : lkF labs w = some v) : ∃ j : Nat, labs[j]? = some (w, v) := by
  unfold lkF at h
  obtain ⟨p, hp, he⟩ := Option.map_eq_some_iff.1 h
  have h1 := List.find?_some hp
  have h2 := List.mem_of_find?_eq_some hp
  obtain ⟨j, hj⟩ := List.getElem?_of_mem h2
  have h3 : p.1 = w := of_decide_eq_true h1
  exact ⟨j, by rw [hj, ← h3, ← he]⟩
/-- why a line is wrong -/
noncomputable def rdE (X : Aob) (l : Ln) : Int := if l.bad = true then 3 else if l.lab ≠ noB ∧ lkF X.labs l.lab ≠ none then 14 else if l.lab = noB ∧ 1024 < X.bs.length + (lnZb l).length then 4 else 0
theorem lnZ_len : ∀ (ns ss : List Int), (lnZ ns ss).length ≤ 2 * ns.length
  | [], _ => by simp [lnZ]
  | n :: ns, [] => by simp [lnZ]
  | n :: ns, s :: ss => by
    have := lnZ_len ns ss
    simp only [lnZ, List.length_append, List.length_take, p2_len, List.length_cons]
    omega
/-! all lines -/
inductive TxR where
  | done (bs : List UInt8) (labs : List (ByteArray × Int))
  | fail (line e : Int)
noncomputable def ptF (labs : List (ByteArray × Int)) : List UInt8 → List (ByteArray × Int × Int) → TxR
  | bs, [] => .done bs labs
  | bs, u :: r => match lkF labs u.1 with
    | none => .fail u.2.2 14
    | some v => ptF labs (lay bs u.2.1.toNat (p2 v)) r
noncomputable def txF : Aob → List (List UInt8) → TxR
  | X, [] => ptF X.labs X.bs X.uses
  | X, l :: r => if rdE ⟨X.bs, X.labs, X.uses, X.line + 1⟩ (lnF l) ≠ 0 then .fail (X.line + 1) (rdE ⟨X.bs, X.labs, X.uses, X.line + 1⟩ (lnF l)) else txF (rdX ⟨X.bs, X.labs, X.uses, X.line + 1⟩ (lnF l)) r
/-- the uses' places are right -/
def usOk (n : Nat) (us : List (ByteArray × Int × Int)) : Prop := ∀ u ∈ us, 0 ≤ u.2.1 ∧ u.2.1 + 2 ≤ n
theorem rdX_line (X : Aob) (l : Ln) : (rdX X l).line = X.line := by unfold rdX; split <;> rfl
theorem rdX_uses (X : Aob) (l : Ln) : (rdX X l).uses.length ≤ X.uses.length + 1 := by
  unfold rdX
  split
  · exact addU_len X _ _
  · show X.uses.length ≤ _; omega
theorem rdE_zero {X : Aob} {l : Ln} (h : rdE X l = 0) : l.bad = false ∧ (l.lab ≠ noB → lkF X.labs l.lab = none) ∧ (l.lab = noB → X.bs.length + (lnZb l).length ≤ 1024) := by
  unfold rdE at h
  by_cases h1 : l.bad = true
  · rw [if_pos h1] at h; exact absurd h (by decide)
  · rw [if_neg h1] at h
    by_cases h2 : l.lab ≠ noB ∧ lkF X.labs l.lab ≠ none
    · rw [if_pos h2] at h; exact absurd h (by decide)
    · rw [if_neg h2] at h
      by_cases h3 : l.lab = noB ∧ 1024 < X.bs.length + (lnZb l).length
      · rw [if_pos h3] at h; exact absurd h (by decide)
      · refine ⟨by simpa using h1, fun h4 => Classical.byContradiction fun h5 => h2 ⟨h4, h5⟩, fun h4 => ?_⟩
        have := fun h => h3 ⟨h4, h⟩
        exact Nat.le_of_not_lt this
theorem rdX_bs {X : Aob} {l : Ln} (hb : X.bs.length ≤ 1024) (h : rdE X l = 0) : (rdX X l).bs.length ≤ 1024 := by
  have h3 := (rdE_zero h).2.2
  unfold rdX
  by_cases hl : l.lab = noB
  · rw [if_pos hl]
    have := h3 hl
    show (X.bs ++ lnZb l).length ≤ 1024
    rw [List.length_append]
    exact this
  · rw [if_neg hl]; exact hb
theorem rdX_us {X : Aob} {l : Ln} (hok : LnOk l) (hz : (lnZb l).length = (szF l).toNat) (h2 : l.nam ≠ noB → 2 ≤ szF l) (hu : usOk X.bs.length X.uses) : usOk (rdX X l).bs.length (rdX X l).uses := by
  unfold rdX
  by_cases hl : l.lab = noB
  · rw [if_pos hl]
    show usOk (X.bs ++ lnZb l).length (addU X l.nam (szF l - 2)).uses
    intro u hu2
    rw [List.length_append, hz]
    have hb := sz_bd hok
    unfold addU at hu2
    split at hu2
    · have := hu u hu2
      omega
    · rename_i hn
      rcases List.mem_append.1 hu2 with h | h
      · have := hu u h; omega
      · rw [List.mem_singleton.1 h]
        have := h2 hn
        show 0 ≤ (X.bs.length : Int) + (szF l - 2) ∧ (X.bs.length : Int) + (szF l - 2) + 2 ≤ _
        omega
  · rw [if_neg hl]; exact hu
theorem lnZ_sz : ∀ (ns ss : List Int), ns.length = ss.length → (∀ x ∈ ss, x = 1 ∨ x = 2) → ((lnZ ns ss).length : Int) = sumI ss
  | [], [], _, _ => rfl
  | n :: ns, s :: ss, hl, h => by
    have ih := lnZ_sz ns ss (by simpa using hl) (fun x hx => h x (by simp [hx]))
    have hs := h s (by simp)
    simp only [lnZ, List.length_append, List.length_take, p2_len, sumI]
    omega
theorem lnZb_sz {l : Ln} (h : LnOk l) : (lnZb l).length = (szF l).toNat := by
  have := lnZ_sz l.nums l.szs h.len h.sz
  show (lnZ l.nums l.szs).length = (sumI l.szs).toNat
  omega
end Go.Proofs
set_option linter.all false
namespace Go.Proofs
open Go.Eng Go.RowKit Go.MapKept
open Classical
set_option linter.unusedVariables false
set_option maxRecDepth 100000
set_option maxHeartbeats 4000000
theorem val_sz (l : Ln) (w : ByteArray) : sumI (valF l w).szs = sumI l.szs + 2 := by
  unfold valF
  split
  · show sumI (l.szs ++ [2]) = _; rw [sumI_app]; rfl
  · show sumI (l.szs ++ [2]) = _; rw [sumI_app]; rfl
theorem nam_sz (l : List UInt8) : (lnF l).nam ≠ noB → 2 ≤ szF (lnF l) := by
  intro h
  have hb : (badL).nam = noB := rfl
  unfold lnF at h ⊢
  split at h
  · exact absurd rfl h
  · rename_i h0
    rw [if_neg h0]
    unfold wlnF at h ⊢
    split at h
    · exact absurd rfl h
    · rename_i h1
      rw [if_neg h1]
      split at h
      · exact absurd rfl h
      · rename_i h2
        rw [if_neg h2]
        split at h
        · rename_i h3
          rw [if_pos h3]
          show 2 ≤ sumI (valF nilL _).szs
          rw [val_sz]
          exact Int.le_refl _
        · rename_i h3
          rw [if_neg h3]
          split at h
          · rename_i h4
            rw [if_pos h4]
            unfold insF at h ⊢
            split at h
            · rename_i h5
              rw [if_pos h5]
              split at h
              · rename_i h6
                rw [if_pos h6]
                show 2 ≤ sumI (valF _ _).szs
                rw [val_sz]
                show 2 ≤ sumI [1, 1] + 2
                decide
              · exact absurd rfl h
            · rename_i h5
              rw [if_neg h5]
              split at h
              · rename_i h6
                rw [if_pos h6]
                split at h
                · rename_i h7
                  rw [if_pos h7]
                  show 2 ≤ sumI (valF _ _).szs
                  rw [val_sz]
                  show 2 ≤ sumI [1, 1] + 2
                  decide
                · exact absurd rfl h
              · rename_i h6
                rw [if_neg h6]
                split at h
                · rename_i h7
                  rw [if_pos h7]
                  split at h
                  · exact absurd rfl h
                  · rename_i h8
                    rw [if_neg h8]
                    split at h
                    · exact absurd rfl h
                    · rename_i h9
                      rw [if_neg h9]
                      show 2 ≤ sumI (valF _ _).szs
                      rw [val_sz]
                      show 2 ≤ sumI [1, 1] + 2
                      decide
                · exact absurd rfl h
          · exact absurd rfl h
end Go.Proofs
set_option linter.all false
namespace Go.Proofs
open Go.Eng Go.RowKit Go.MapKept
open Classical
set_option linter.unusedVariables false
set_option maxRecDepth 100000
set_option maxHeartbeats 4000000
abbrev Tryz.AoY := Aob × Option Addr × Nat × Nat × Option Addr × Nat
abbrev Tryz.aoW (y : Tryz.AoY) : Prop := y.1.bs.length ≤ y.2.2.1 ∧ Ad y.2.1 y.1.bs.length ∧ y.1.uses.length ≤ y.2.2.2.2.2 ∧ Ad y.2.2.2.2.1 y.1.uses.length
abbrev X0 : Aob := ⟨[], [], [], 0⟩
noncomputable def asR : TxR → List UInt8 × Int × Int
  | .done bs _ => (bs, 0, 0)
  | .fail ln e => ([], ln, e)
theorem pt_ne {labs : List (ByteArray × Int)} : ∀ (us : List (ByteArray × Int × Int)) (bs : List UInt8) (ln e : Int), ptF labs bs us = .fail ln e → e ≠ 0
  | [], bs, ln, e, h => by rw [ptF] at h; cases h
  | u :: r, bs, ln, e, h => by
    rw [ptF] at h
    cases hl : lkF labs u.1 with
    | none => rw [hl] at h; injection h with h1 h2; rw [← h2]; decide
    | some v => rw [hl] at h; exact pt_ne r _ _ _ h
theorem tx_ne : ∀ (r : List (List UInt8)) (X : Aob) (ln e : Int), txF X r = .fail ln e → e ≠ 0
  | [], X, ln, e, h => pt_ne _ _ _ _ h
  | l :: r, X, ln, e, h => by
    rw [txF] at h
    by_cases hE : rdE ⟨X.bs, X.labs, X.uses, X.line + 1⟩ (lnF l) ≠ 0
    · rw [if_pos hE] at h; injection h with h1 h2; rw [← h2]; exact hE
    · rw [if_neg hE] at h; exact tx_ne r _ _ _ h
end Go.Proofs
set_option linter.all false
namespace Go.Proofs
open Go.Eng
open Classical
set_option linter.unusedVariables false
set_option maxRecDepth 100000
set_option maxHeartbeats 4000000
/-- a name stands last, in two bytes -/
def NamL (l : Ln) : Prop := ∃ ns ss, l.nums = ns ++ [0] ∧ l.szs = ss ++ [2]
theorem val_nam {l : Ln} {w : ByteArray} (hn : l.nam = noB) : (valF l w).nam ≠ noB → NamL (valF l w) := by
  unfold valF
  split
  · intro _
    exact ⟨l.nums, l.szs, rfl, rfl⟩
  · intro h
    exact absurd hn h
theorem nam_last (l : List UInt8) : (lnF l).nam ≠ noB → NamL (lnF l) := by
  unfold lnF
  split
  · exact fun h => absurd rfl h
  · unfold wlnF
    split
    · exact fun h => absurd rfl h
    · split
      · exact fun h => absurd rfl h
      · split
        · exact val_nam rfl
        · split
          · unfold insF
            split
            · split
              · exact val_nam rfl
              · exact fun h => absurd rfl h
            · split
              · split
                · exact val_nam rfl
                · exact fun h => absurd rfl h
              · split
                · split
                  · exact fun h => absurd rfl h
                  · split
                    · exact fun h => absurd rfl h
                    · exact val_nam rfl
                · exact fun h => absurd rfl h
          · exact fun h => absurd rfl h
structure LnG (l : Ln) : Prop where
  ok : LnOk l
  nm : l.nam ≠ noB → NamL l
theorem lnG (l : List UInt8) : LnG (lnF l) := ⟨ok_ln l, nam_last l⟩
theorem lnZ_snoc : ∀ (ns ss : List Int) (n s : Int), ns.length = ss.length → lnZ (ns ++ [n]) (ss ++ [s]) = lnZ ns ss ++ (p2 n).take s.toNat
  | [], [], n, s, _ => by simp [lnZ]
  | a :: ns, b :: ss, n, s, h => by
    show (p2 a).take b.toNat ++ lnZ (ns ++ [n]) (ss ++ [s]) = ((p2 a).take b.toNat ++ lnZ ns ss) ++ _
    rw [lnZ_snoc ns ss n s (by simpa using h), List.append_assoc]
theorem lnB_Z (all : List Ln) (l : Ln) (hl : l.nums.length = l.szs.length) : ∀ m, m ≤ l.nums.length → (∀ k, k < m → numAt all l k = l.nums.getD k 0) → lnB all l m = lnZ (l.nums.take m) (l.szs.take m)
  | 0, _, _ => by simp [lnB, lnZ]
  | m + 1, hm, h => by
    rw [lnB, lnB_Z all l hl m (by omega) (fun k hk => h k (by omega)), h m (by omega)]
    have e1 : l.nums.take (m + 1) = l.nums.take m ++ [l.nums.getD m 0] := by
      rw [List.take_add_one, List.getElem?_eq_getElem (by omega)]
      simp [List.getD, show m < l.nums.length by omega]
    have e2 : l.szs.take (m + 1) = l.szs.take m ++ [l.szs.getD m 0] := by
      rw [List.take_add_one, List.getElem?_eq_getElem (by omega)]
      simp [List.getD, show m < l.szs.length by omega]
    rw [e1, e2, lnZ_snoc _ _ _ _ (by simp; omega)]
theorem lnB_none (all : List Ln) (l : Ln) (hl : l.nums.length = l.szs.length) (hn : l.nam = noB) : lnB all l l.nums.length = lnZb l := by
  rw [lnB_Z all l hl _ (Nat.le_refl _) (fun k hk => if_neg (fun h => h.1 hn)), List.take_length, hl, List.take_length]
theorem lnB_nam (all : List Ln) (l : Ln) {ns ss : List Int} (hl : l.nums.length = l.szs.length) (hn : l.nam ≠ noB) (e1 : l.nums = ns ++ [0]) (e2 : l.szs = ss ++ [2]) :
    lnB all l l.nums.length = lnZ ns ss ++ p2 (plcF l.nam 0 all) ∧ lnZb l = lnZ ns ss ++ p2 0 ∧ ns.length = ss.length := by
  have h1 : ns.length = ss.length := by rw [e1, e2, List.length_append, List.length_append] at hl; simpa using hl
  have hlen : l.nums.length = ns.length + 1 := by rw [e1]; simp
  refine ⟨?_, ?_, h1⟩
  · rw [hlen, lnB, lnB_Z all l hl ns.length (by omega) (fun k hk => if_neg (fun h => by omega))]
    have e3 : numAt all l ns.length = plcF l.nam 0 all := if_pos ⟨hn, by omega⟩
    have e4 : l.szs.getD ns.length 0 = 2 := by rw [e2, h1]; simp [List.getD]
    rw [e3, e4, e1, e2, List.take_left, h1, List.take_left]
    rfl
  · unfold lnZb
    rw [e1, e2, lnZ_snoc _ _ _ _ h1]
    rfl
/-! labels and uses of lines -/
def szS : List Ln → Int
  | [] => 0
  | l :: r => szF l + szS r
noncomputable def labF : Int → List Ln → List (ByteArray × Int)
  | _, [] => []
  | n, l :: r => if l.lab = noB then labF (n + szF l) r else (l.lab, n) :: labF (n + szF l) r
noncomputable def usF : Int → Int → List Ln → List (ByteArray × Int × Int)
  | _, _, [] => []
  | n, k, l :: r => if l.nam = noB then usF (n + szF l) (k + 1) r else (l.nam, n + szF l - 2, k + 1) :: usF (n + szF l) (k + 1) r
theorem szS_snoc (l : Ln) : ∀ acc, szS (acc ++ [l]) = szS acc + szF l
  | [] => by simp [szS]
  | x :: acc => by rw [List.cons_append, szS, szS_snoc l acc, szS]; omega
theorem labF_snoc (l : Ln) : ∀ acc n, labF n (acc ++ [l]) = labF n acc ++ (if l.lab = noB then [] else [(l.lab, n + szS acc)])
  | [], n => by simp [labF, szS]
  | x :: acc, n => by
    rw [List.cons_append, labF, labF_snoc l acc, labF, szS, show n + szF x + szS acc = n + (szF x + szS acc) by omega]
    split <;> rfl
theorem usF_snoc (l : Ln) : ∀ acc n k, usF n k (acc ++ [l]) = usF n k acc ++ (if l.nam = noB then [] else [(l.nam, n + szS acc + szF l - 2, k + acc.length + 1)])
  | [], n, k => by simp [usF, szS]
  | x :: acc, n, k => by
    rw [List.cons_append, usF, usF_snoc l acc, usF, szS, show n + szF x + szS acc = n + (szF x + szS acc) by omega, show k + 1 + (acc.length : Int) + 1 = k + ((x :: acc).length : Nat) + 1 by rw [List.length_cons]; omega]
    split <;> rfl
theorem plc_lk {w : ByteArray} (hw : w ≠ noB) : ∀ (r : List Ln) (n : Int), plcF w n r = match lkF (labF n r) w with | some v => v | none => -1
  | [], n => rfl
  | l :: r, n => by
    rw [plcF, labF]
    by_cases h1 : l.lab = w
    · have h2 : l.lab ≠ noB := by rw [h1]; exact hw
      rw [if_pos h1, if_neg h2]
      unfold lkF
      rw [List.find?_cons_of_pos (by simpa using h1)]
      rfl
    · rw [if_neg h1, plc_lk hw r]
      by_cases h2 : l.lab = noB
      · rw [if_pos h2]
      · rw [if_neg h2]
        unfold lkF
        rw [List.find?_cons_of_neg (by simpa using h1)]
theorem labF_ge {r : List Ln} (hok : ∀ l ∈ r, LnOk l) : ∀ n, 0 ≤ n → ∀ p ∈ labF n r, 0 ≤ p.2 := by
  induction r with
  | nil => intro n hn p hp; simp [labF] at hp
  | cons l r ih =>
    intro n hn p hp
    have hb := sz_bd (hok l (by simp))
    have ih2 := ih (fun l hl => hok l (by simp [hl])) (n + szF l) (by omega)
    rw [labF] at hp
    split at hp
    · exact ih2 p hp
    · rcases List.mem_cons.1 hp with h | h
      · rw [h]; exact hn
      · exact ih2 p h
theorem lk_ge {acc : List Ln} {w : ByteArray} {v : Int} (hok : ∀ l ∈ acc, LnOk l) (h : lkF (labF 0 acc) w = some v) : 0 ≤ v := by
  obtain ⟨j, hj⟩ := lk_some h
  exact labF_ge hok 0 (Int.le_refl 0) _ (List.mem_of_getElem? hj)
theorem plc_ge {acc : List Ln} {w : ByteArray} (hw : w ≠ noB) (hok : ∀ l ∈ acc, LnOk l) : 0 ≤ plcF w 0 acc ↔ lkF (labF 0 acc) w ≠ none := by
  rw [plc_lk hw]
  cases h : lkF (labF 0 acc) w with
  | none => exact ⟨fun h => absurd h (by decide), fun h => absurd rfl h⟩
  | some v => exact ⟨fun _ => (nofun), fun _ => lk_ge hok h⟩
theorem bs_len : ∀ (acc : List Ln), (∀ l ∈ acc, LnOk l) → ((acc.flatMap lnZb).length : Int) = szS acc
  | [], _ => rfl
  | l :: r, h => by
    have ih := bs_len r (fun l hl => h l (by simp [hl]))
    have h1 := lnZb_sz (h l (by simp))
    have h2 := sz_bd (h l (by simp))
    rw [List.flatMap_cons, List.length_append, szS]
    omega
theorem allB_len (all : List Ln) : ∀ (acc : List Ln), (∀ l ∈ acc, LnG l) → ((allB all acc).length : Int) = szS acc
  | [], _ => rfl
  | l :: r, h => by
    have ih := allB_len all r (fun l hl => h l (by simp [hl]))
    have hg := h l (by simp)
    have h1 := lnZb_sz hg.ok
    have h2 := sz_bd hg.ok
    have h3 : (lnB all l l.nums.length).length = (lnZb l).length := by
      by_cases hn : l.nam = noB
      · rw [lnB_none all l hg.ok.len hn]
      · obtain ⟨ns, ss, e1, e2⟩ := hg.nm hn
        obtain ⟨q1, q2, q3⟩ := lnB_nam all l hg.ok.len hn e1 e2
        rw [q1, q2, List.length_append, List.length_append, p2_len, p2_len]
    unfold allB at ih ⊢
    rw [List.flatMap_cons, List.length_append, szS]
    omega
theorem allB_snoc (all acc : List Ln) (l : Ln) : allB all (acc ++ [l]) = allB all acc ++ lnB all l l.nums.length := by simp [allB]
theorem lay_mid (A B C D : List UInt8) (k : Nat) (hk : k = A.length) (hb : B.length = C.length) : lay (A ++ B ++ D) k C = A ++ C ++ D := by
  subst hk
  have e1 : (A ++ B ++ D).take A.length = A := by rw [List.append_assoc, List.take_left]
  have e2 : (A ++ B ++ D).drop (A.length + C.length) = D := by rw [← hb, ← List.length_append, List.drop_left]
  unfold lay
  rw [e1, e2]
/-- the end: names are filled in -/
theorem pt_eq (all : List Ln) (hall : ∀ l ∈ all, LnG l) : ∀ (r pre : List Ln), pre ++ r = all →
    asR (ptF (labF 0 all) (allB all pre ++ r.flatMap lnZb) (usF (szS pre) pre.length r)) = if (nmsA all pre.length r).2.2 = 0 then (allB all all, 0, 0) else ([], (nmsA all pre.length r).2.1, (nmsA all pre.length r).2.2)
  | [], pre, he => by
    rw [List.append_nil] at he
    subst he
    rw [usF, ptF, nmsA, if_pos rfl]
    simp [asR]
  | l :: r, pre, he => by
    have hg := hall l (by rw [← he]; simp)
    have ih := pt_eq all hall r (pre ++ [l]) (by rw [← he]; simp)
    rw [allB_snoc, szS_snoc, show ((pre ++ [l]).length) = pre.length + 1 by simp, show (((pre.length + 1 : Nat)) : Int) = (pre.length : Int) + 1 by omega] at ih
    rw [usF]
    by_cases hn : l.nam = noB
    · have eN : nmsA all pre.length (l :: r) = nmsA all (pre.length + 1) r := by rw [nmsA]; exact if_neg (fun h => h.1 hn)
      rw [if_pos hn, eN]
      rw [lnB_none all l hg.ok.len hn, List.append_assoc] at ih
      exact ih
    · rw [if_neg hn, ptF]
      have hp := plc_lk hn all 0
      cases hlk : lkF (labF 0 all) l.nam with
      | none =>
        rw [hlk] at hp
        dsimp only at hp
        have eN : nmsA all pre.length (l :: r) = (all, (pre.length : Int) + 1, 14) := by rw [nmsA]; exact if_pos ⟨hn, by rw [hp]; decide⟩
        rw [eN, if_neg (show ¬ (14 : Int) = 0 by decide)]
        rfl
      | some v =>
        rw [hlk] at hp
        dsimp only at hp
        have hv := lk_ge (fun l hl => (hall l hl).ok) hlk
        have eN : nmsA all pre.length (l :: r) = nmsA all (pre.length + 1) r := by rw [nmsA]; exact if_neg (fun h => by rw [hp] at h; exact absurd h.2 (by omega))
        rw [eN]
        obtain ⟨ns, ss, e1, e2⟩ := hg.nm hn
        obtain ⟨q1, q2, q3⟩ := lnB_nam all l hg.ok.len hn e1 e2
        rw [q1, hp] at ih
        have hpl := allB_len all pre (fun l hl => hall l (by rw [← he]; simp [hl]))
        have h1 := lnZb_sz hg.ok
        have h2 := sz_bd hg.ok
        rw [q2, List.length_append, p2_len] at h1
        have e5 : allB all pre ++ (l :: r).flatMap lnZb = (allB all pre ++ lnZ ns ss) ++ p2 0 ++ r.flatMap lnZb := by
          rw [List.flatMap_cons, q2]
          simp only [List.append_assoc]
        have e6 : lay (allB all pre ++ lnZ ns ss ++ p2 0 ++ r.flatMap lnZb) (szS pre + szF l - 2).toNat (p2 v) = allB all pre ++ lnZ ns ss ++ p2 v ++ r.flatMap lnZb := lay_mid _ _ _ _ _ (by rw [List.length_append]; omega) rfl
        dsimp only
        rw [e5, e6]
        rw [show allB all pre ++ lnZ ns ss ++ p2 v = allB all pre ++ (lnZ ns ss ++ p2 v) by simp only [List.append_assoc]]
        exact ih
noncomputable abbrev asP (R : List Ln × Int × Int) : List UInt8 × Int × Int := if R.2.2 = 0 then (allB R.1 R.1, 0, 0) else ([], R.2.1, R.2.2)
noncomputable abbrev xF (acc : List Ln) (k : Int) : Aob := ⟨acc.flatMap lnZb, labF 0 acc, usF 0 0 acc, k⟩
theorem rdX_acc (acc : List Ln) (l : Ln) (hacc : ∀ l ∈ acc, LnOk l) (hl : LnOk l) : rdX (xF acc (acc.length + 1)) l = xF (acc ++ [l]) ((acc ++ [l]).length) := by
  have hb := bs_len acc hacc
  have e0 : (((acc ++ [l]).length : Nat) : Int) = (acc.length : Int) + 1 := by simp
  rw [e0]
  unfold rdX xF
  rw [labF_snoc, usF_snoc, List.flatMap_append, List.flatMap_singleton]
  by_cases h1 : l.lab = noB
  · rw [if_pos h1, if_pos h1, List.append_nil]
    unfold addU
    by_cases h2 : l.nam = noB
    · rw [if_pos h2, if_pos h2, List.append_nil]
    · rw [if_neg h2, if_neg h2]
      dsimp only
      rw [hb, show szS acc + (szF l - 2) = 0 + szS acc + szF l - 2 by omega, show (0 : Int) + (acc.length : Int) + 1 = (acc.length : Int) + 1 by omega]
  · obtain ⟨h3, h4, h5⟩ := hl.lab1 h1
    have h6 : lnZb l = [] := by unfold lnZb; rw [h4]; rfl
    rw [if_neg h1, if_neg h1, if_pos h5, List.append_nil, h6, List.append_nil]
    dsimp only
    rw [hb, show (0 : Int) + szS acc = szS acc by omega]
theorem tx_eq : ∀ (r : List (List UInt8)) (acc : List Ln), (∀ l ∈ acc, LnG l) → szS acc ≤ 1024 → asR (txF (xF acc acc.length) r) = asP (lnsA acc (szS acc) r)
  | [], acc, hacc, hb => by
    rw [txF, lnsA]
    have := pt_eq acc hacc acc [] rfl
    unfold asP
    rw [nms_fst]
    exact this
  | x :: r, acc, hacc, hb => by
    have hg := lnG x
    have ho := fun l hl => (hacc l hl).ok
    have hbl := bs_len acc ho
    have hzl := lnZb_sz hg.ok
    have hzb := sz_bd hg.ok
    rw [txF, lnsA]
    have hX : (⟨(xF acc acc.length).bs, (xF acc acc.length).labs, (xF acc acc.length).uses, (xF acc acc.length).line + 1⟩ : Aob) = xF acc (acc.length + 1) := rfl
    rw [hX]
    have hln : (xF acc acc.length).line = acc.length := rfl
    rw [hln]
    by_cases h1 : (lnF x).bad = true
    · have e : rdE (xF acc (acc.length + 1)) (lnF x) = 3 := if_pos h1
      rw [if_pos h1, e, if_pos (by decide)]
      unfold asP
      rw [if_neg (show ¬ (3 : Int) = 0 by decide)]
      rfl
    · rw [if_neg h1]
      by_cases h2 : (lnF x).lab ≠ noB ∧ 0 ≤ plcF (lnF x).lab 0 acc
      · have h3 : lkF (labF 0 acc) (lnF x).lab ≠ none := (plc_ge h2.1 ho).1 h2.2
        have e : rdE (xF acc (acc.length + 1)) (lnF x) = 14 := by
          unfold rdE
          rw [if_neg h1]
          exact if_pos ⟨h2.1, h3⟩
        rw [if_pos h2, e, if_pos (by decide)]
        unfold asP
        rw [if_neg (show ¬ (14 : Int) = 0 by decide)]
        rfl
      · have h3 : ¬ ((lnF x).lab ≠ noB ∧ lkF (labF 0 acc) (lnF x).lab ≠ none) := fun h => h2 ⟨h.1, (plc_ge h.1 ho).2 h.2⟩
        rw [if_neg h2]
        by_cases h4 : 1024 < szS acc + szF (lnF x)
        · have h5 : (lnF x).lab = noB := Classical.byContradiction fun hc => by
            obtain ⟨q1, q2, q3⟩ := hg.ok.lab1 hc
            have q4 : szF (lnF x) = 0 := by
              have q5 := hg.ok.len
              rw [q2] at q5
              unfold szF
              rw [List.eq_nil_of_length_eq_zero q5.symm]
              rfl
            omega
          have e : rdE (xF acc (acc.length + 1)) (lnF x) = 4 := by
            unfold rdE
            rw [if_neg h1]
            rw [if_neg (show ¬ ((lnF x).lab ≠ noB ∧ lkF (xF acc (acc.length + 1)).labs (lnF x).lab ≠ none) from h3)]
            exact if_pos ⟨h5, by show 1024 < (acc.flatMap lnZb).length + _; omega⟩
          rw [if_pos h4, e, if_pos (by decide)]
          unfold asP
          rw [if_neg (show ¬ (4 : Int) = 0 by decide)]
          rfl
        · have e : rdE (xF acc (acc.length + 1)) (lnF x) = 0 := by
            unfold rdE
            rw [if_neg h1]
            rw [if_neg (show ¬ ((lnF x).lab ≠ noB ∧ lkF (xF acc (acc.length + 1)).labs (lnF x).lab ≠ none) from h3)]
            exact if_neg (fun h => by have h6 : 1024 < (acc.flatMap lnZb).length + (lnZb (lnF x)).length := h.2; omega)
          rw [if_neg h4, e, if_neg (by decide), rdX_acc acc (lnF x) ho hg.ok, ← szS_snoc]
          refine tx_eq r (acc ++ [lnF x]) (fun l hl => ?_) (by rw [szS_snoc]; omega)
          rcases List.mem_append.1 hl with h | h
          · exact hacc l h
          · rw [List.mem_singleton.1 h]; exact hg
theorem asm_eq (s : List UInt8) : asR (txF X0 (splL 10 s)) = asmF s := tx_eq (splL 10 s) [] (fun l hl => by simp at hl) (by decide)
end Go.Proofs
