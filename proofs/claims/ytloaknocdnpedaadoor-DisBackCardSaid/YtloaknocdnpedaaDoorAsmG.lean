/- The assembler's readers of words: contracts, with what makes them give up. -/
import Derived.Test.YtloaknocdnpedaaDoorAsmF
import Derived.Test.YtloaknocdnpedaaDoorEngPan
import Derived.Shelf.Strings.FuncGrows
import Derived.Laws.RangeAny
import Derived.Tactics2
set_option linter.all false
namespace Go.Proofs
open Go.Eng Go.RowKit
open Classical
set_option linter.unusedVariables false
set_option maxRecDepth 100000
set_option maxHeartbeats 4000000
abbrev qI' (n : Int) : Value := .int .i64 n
/-! names -/
def notLow (x : Nat) : Bool := decide (x < 97) || decide (122 < x)
theorem sAt_idx {s : ByteArray} {k : Nat} (h : k < s.size) : s[k]'h = sAt s k := by
  show _ = s.data.toList.getD k 0
  have hk : k < s.data.toList.length := by rw [size_list]; exact h
  rw [List.getD_eq_getElem?_getD, List.getElem?_eq_getElem hk]
  rfl
theorem idx_names (s : ByteArray) : ∀ (f pos : Nat), s.size ≤ pos + f → (0 ≤ Lib.idxFuncFrom notLow true s f pos ↔ ∃ i, pos ≤ i ∧ i < s.size ∧ ¬ ltr (sAt s i))
  | 0, pos, h => ⟨fun h' => absurd h' (by show ¬ (0 : Int) ≤ -1; decide), fun ⟨i, h1, h2, _⟩ => by omega⟩
  | f + 1, pos, h => by
    unfold Lib.idxFuncFrom
    by_cases hp : pos < s.size
    · rw [if_pos hp]
      by_cases ha : (sAt s pos).toNat < 128
      · have hd := decode_ascii s pos hp (by rw [sAt_idx hp]; exact ha)
        rw [hd, sAt_idx hp]
        by_cases hl : ltr (sAt s pos)
        · have hn : notLow (sAt s pos).toNat = false := by
            unfold notLow
            rw [decide_eq_false (by have := hl.1; omega), decide_eq_false (by have := hl.2; omega)]
            rfl
          rw [hn, if_neg (by decide), idx_names s f (pos + 1) (by omega)]
          constructor
          · rintro ⟨i, h1, h2, h3⟩; exact ⟨i, by omega, h2, h3⟩
          · rintro ⟨i, h1, h2, h3⟩
            refine ⟨i, ?_, h2, h3⟩
            rcases Nat.eq_or_lt_of_le h1 with h4 | h4
            · subst h4; exact absurd hl h3
            · omega
        · have hn : notLow (sAt s pos).toNat = true := by
            unfold notLow
            by_cases h1 : (sAt s pos).toNat < 97
            · rw [decide_eq_true h1]; rfl
            · rw [decide_eq_true (show 122 < (sAt s pos).toNat from Nat.lt_of_not_le fun h2 => hl ⟨by omega, h2⟩), Bool.or_true]
          rw [hn, if_pos rfl]
          exact ⟨fun _ => ⟨pos, Nat.le_refl _, hp, hl⟩, fun _ => by omega⟩
      · have hd := decode_high s pos hp (by rw [sAt_idx hp]; omega)
        have hn : notLow (Utf8.decode s pos).1 = true := by
          unfold notLow
          rw [decide_eq_true (show 122 < (Utf8.decode s pos).1 by omega), Bool.or_true]
        rw [hn, if_pos rfl]
        exact ⟨fun _ => ⟨pos, Nat.le_refl _, hp, fun hl => by have := hl.2; omega⟩, fun _ => by omega⟩
    · rw [if_neg hp]
      exact ⟨fun h' => absurd h' (by decide), fun ⟨i, h1, h2, _⟩ => by omega⟩
theorem Tryd.isLow (w : World) : PredGrows Tryd.prog 66 #[] notLow w := fun W x hx hb => by
  show Calls Tryd.prog 66 #[.int .i32 x] W _
  go_enter Tryd.func66, Tryd.ntmps66
  go_wp2
  all_goals (
    go_ret
    refine ⟨?_, Below.refl _ _⟩
    have e1 : decide ((x : Int) < 97) = decide (x < 97) := decide_eq_decide.2 (by omega)
    have e2 : decide (122 < (x : Int)) = decide (122 < x) := decide_eq_decide.2 (by omega)
    first | (simp_all [notLow]; done) | (simp_all only [notLow]; done) | (simp_all [notLow]; omega))
theorem Tryd.asmIsName (s : ByteArray) (L : List HP) (hs : s.size ≤ 1000000000) : Con Tryd.prog 54 [.string s] L (Is (.bool (decide (Ltrs s))) L) := by
  have hcf : ∀ L, Con Tryd.prog 65 [.string s, .func (.func 66) #[] #[]] L (Is (.bool (decide (0 ≤ Lib.idxFunc notLow true s))) L) := fun L =>
    Con.lib ⟨_, Tryd.func65, by kernel_rfl, by kernel_rfl⟩ fun w _ => Tryd.strings_ContainsFunc_grows 66 #[] (enters_of Tryd.func66 (by kernel_rfl) rfl) notLow s w (Tryd.isLow w)
  have hi : 0 ≤ Lib.idxFunc notLow true s ↔ ∃ i, 0 ≤ i ∧ i < s.size ∧ ¬ ltr (sAt s i) := idx_names s s.size 0 (by omega)
  by_cases h1 : 1 ≤ s.size ∧ s.size ≤ 16
  · obtain ⟨h1, h2⟩ := h1
    by_cases hl : Ltrs s
    · have hcf := fun L => Con.df (fun h => by obtain ⟨i, _, h3, h4⟩ := hi.1 h; exact h4 (hl.all i h3)) (hcf L)
      rw [decide_eq_true hl]
      clear hi
      refine con_of Tryd.tysOk Tryd.func54 rfl rfl ?_
      conv => whnf
      repeat' (first
        | (first | ((with_reducible refine Br.tt ?_); conv => whnf) | ((with_reducible refine Br.dt ?_ ?_); (focus (first | assumption | omega)); conv => whnf))
        | ((with_reducible refine Cl.is (hcf _) ?_); conv => whnf))
      all_goals first | (exfalso; omega) | (refine Is.ent ?_ ?_; (focus (exact Ent.rfl)); (exact Is.rfl))
    · have hcf := fun L => Con.dt (hi.2 (Classical.byContradiction fun hc => hl ⟨h1, h2, fun i hi => Classical.byContradiction fun h => hc ⟨i, by omega, hi, h⟩⟩)) (hcf L)
      rw [decide_eq_false hl]
      clear hi
      refine con_of Tryd.tysOk Tryd.func54 rfl rfl ?_
      conv => whnf
      repeat' (first
        | (first | ((with_reducible refine Br.tt ?_); conv => whnf) | ((with_reducible refine Br.dt ?_ ?_); (focus (first | assumption | omega)); conv => whnf))
        | ((with_reducible refine Cl.is (hcf _) ?_); conv => whnf))
      all_goals first | (exfalso; omega) | (refine Is.ent ?_ ?_; (focus (exact Ent.rfl)); (exact Is.rfl))
  · rw [decide_eq_false (fun h : Ltrs s => h1 ⟨h.ge, h.le⟩)]
    clear hi hcf
    by_cases h2 : 1 ≤ s.size
    · have h3 : 16 < s.size := Nat.lt_of_not_le fun h => h1 ⟨h2, h⟩
      clear h1
      refine con_of Tryd.tysOk Tryd.func54 rfl rfl ?_
      conv => whnf
      repeat' (first | ((with_reducible refine Br.tt ?_); conv => whnf) | ((with_reducible refine Br.ff ?_); conv => whnf) | ((with_reducible refine Br.dt ?_ ?_); (focus (first | assumption | omega)); conv => whnf) | ((with_reducible refine Br.df ?_ ?_); (focus (first | assumption | omega)); conv => whnf))
      all_goals first | (exfalso; omega) | (refine Is.ent ?_ ?_; (focus (exact Ent.rfl)); (exact Is.rfl))
    · clear h1
      refine con_of Tryd.tysOk Tryd.func54 rfl rfl ?_
      conv => whnf
      repeat' (first | ((with_reducible refine Br.ff ?_); conv => whnf) | ((with_reducible refine Br.df ?_ ?_); (focus (first | assumption | omega)); conv => whnf))
      all_goals first | (exfalso; omega) | (refine Is.ent ?_ ?_; (focus (exact Ent.rfl)); (exact Is.rfl))
/-! giving up -/
abbrev Tryd.fltV (e : Int) : Value := .iface 87 (.agg #[.int .i64 e])
structure Tryd.PanX (e : Int) (L : List HP) (ch : List PanicEntry) (L' : List HP) : Prop where
  ch : ch = [{ v := Tryd.fltV e, recovered := false }]
  l : Ent L' L
theorem Tryd.asmGive (e : Int) (L : List HP) : Con Tryd.prog 46 [.int .i64 e] L (fun _ _ => False) (Tryd.PanX e L) := by
  refine con_of Tryd.tysOk Tryd.func46 rfl rfl ?_
  conv => whnf
  repeat' skip
  all_goals exact ⟨rfl, Ent.rfl⟩
theorem Tryd.asmArgs (a : Option Addr) (c n : Nat) (k : Int) (L : List HP) (hk : (n : Int) = k + 1) (hn : n ≤ 1000000) : Con Tryd.prog 67 [.slice a n c, .int .i64 k] L (Is (.tuple #[]) L) := by
  refine con_of Tryd.tysOk Tryd.func67 rfl rfl ?_
  conv => whnf
  repeat' (first
    | ((with_reducible refine Br.ndf ?_ ?_); (focus (first | assumption | omega)); conv => whnf)
    | ((with_reducible refine Ar.i64 ?_ ?_); (focus omega); conv => whnf))
  all_goals first | (exfalso; omega) | (refine Is.ent ?_ ?_; (focus (exact Ent.rfl)); (exact Is.rfl))
theorem Tryd.asmArgsNo (a : Option Addr) (c n : Nat) (k : Int) (L : List HP) (hk : (n : Int) ≠ k + 1) (hb : 0 ≤ k ∧ k ≤ 10) (hn : n ≤ 1000000) : Con Tryd.prog 67 [.slice a n c, .int .i64 k] L (fun _ _ => False) (Tryd.PanX 3 L) := by
  refine con_of Tryd.tysOk Tryd.func67 rfl rfl ?_
  conv => whnf
  repeat' (first
    | ((with_reducible refine Br.ndt ?_ ?_); (focus (first | assumption | omega)); conv => whnf)
    | ((with_reducible refine Ar.i64 ?_ ?_); (focus omega); conv => whnf)
    | ((with_reducible refine (?_ : Cl _ 46 _ _ _ _)); (refine Cl.pan (Tryd.asmGive _ _) (fun ch L' h => ?_)); conv => whnf))
  all_goals first | (exfalso; omega) | exact ⟨h.ch, fun w s => (by (exact Ent.rfl) : Ent _ L) w (h.l w s)⟩
/-! numbers -/
noncomputable def numX (s : ByteArray) : Int := if NumA s then numV s.data.toList else 0
theorem Tryd.asmNumber (s : ByteArray) (m : Int) (L : List HP) (hs : s.size ≤ 1000000000) (hm : 0 ≤ m ∧ m ≤ 65535) : Con Tryd.prog 85 [.string s, .int .i64 m] L (Is (.tuple #[.int .i64 (numX s), .bool (decide (0 ≤ numA s m))]) L) := by
  have hsl := size_list s
  by_cases h1 : 1 ≤ s.size ∧ s.size ≤ 5 ∧ (2 ≤ s.size → (sAt s 0).toNat ≠ 48)
  · obtain ⟨h1, h2, h3⟩ := h1
    have hne : ¬ s = ⟨#[]⟩ := fun e => by subst e; exact absurd h1 (by decide)
    have hu0 := u8_lt (sAt s 0)
    refine con_of Tryd.tysOk Tryd.func85 rfl rfl ?_
    conv => whnf
    repeat' (first
      | (first | ((with_reducible refine Br.tt ?_); conv => whnf) | ((with_reducible refine Br.ff ?_); conv => whnf) | ((with_reducible refine Br.df ?_ ?_); (focus (first | assumption | omega)); conv => whnf) | ((with_reducible refine Br.no ?_ ?_); (focus (first | (simp; done) | (simp; omega))); conv => whnf))
      | ((with_reducible refine SIx.mk' ?_ ?_); (focus (omega)); conv => whnf)
      | ((with_reducible refine Br.ds (fun _ => ?_) (fun _ => ?_) ) <;> (conv => whnf)))
    all_goals (
      skip
      conv => whnf
      refine Lp.by2 Tryd.tysOk [27, 6] (fun (k : Nat) (n : Int) => [.int .i64 k, .int .i64 n]) (fun k n => L) (fun k n => k ≤ s.size ∧ n = numV (s.data.toList.take k) ∧ (∀ i, i < k → isDig (sAt s i)) ∧ 0 ≤ n ∧ n + 1 ≤ pw k) (fun k n => s.size - k) (0) (0) (by kernel_rfl) (by (exact Ent.rfl)) (⟨by omega, rfl, fun i hi => by omega, by omega, by decide⟩) ?_
      rintro k n ⟨g1, g2, g3, g4, g5⟩
      conv => whnf
      repeat (intro _; conv => whnf)
      by_cases hk : k < s.size
      · have hu := u8_lt (sAt s k)
        have hp := pw_le (k := k) (by omega)
        by_cases hd : isDig (sAt s k)
        · have e := numV_take hk
          rw [← g2] at e
          have hp2 := pw_s k
          obtain ⟨d1, d2⟩ := hd
          have g3' := lt_step g3 ⟨d1, d2⟩
          clear g2 g3
          have q1 : ((u8of (((sAt s k).toNat : Int) - 48)).toNat : Int) = ((sAt s k).toNat : Int) - 48 := by rw [u8of_int]; omega
          conv => whnf
          repeat' (first
            | (first | ((with_reducible refine Br.ff ?_); conv => whnf) | ((with_reducible refine Br.dt ?_ ?_); (focus (first | assumption | omega)); conv => whnf) | ((with_reducible refine Br.df ?_ ?_); (focus (first | assumption | omega)); conv => whnf))
            | (first | ((with_reducible refine Ar.u8b ?_); conv => whnf) | ((with_reducible refine Ar.i64b ?_); conv => whnf) | ((with_reducible refine Ar.i64 ?_ ?_); (focus omega); conv => whnf))
            | ((with_reducible refine SIx.nat ?_ ?_); (focus (omega)); conv => whnf)
            | ((rw [q1]); conv => whnf))
          all_goals first | (exfalso; omega) | exact ⟨k + 1, 10 * n + (((sAt s k).toNat : Int) - 48), by kernel_rfl, by (exact Ent.rfl), ⟨by omega, e.symm, g3', by omega, by omega⟩, by omega⟩
        · have hno : ¬ NumA s := fun h => hd (h.dig k hk)
          have e1 : numX s = 0 := if_neg hno
          have e2 : numA s m = -1 := if_neg (fun h => hno h.1)
          have hd2 : (sAt s k).toNat < 48 ∨ 57 < (sAt s k).toNat := by
            rcases Nat.lt_or_ge (sAt s k).toNat 48 with h | h
            · exact .inl h
            · exact .inr (Nat.lt_of_not_le fun h' => hd ⟨h, h'⟩)
          rw [e1, show decide (0 ≤ numA s m) = false from decide_eq_false (by rw [e2]; decide)]
          clear g2 g3 hd hno e1 e2
          conv => whnf
          repeat' (first
            | (first | ((with_reducible refine Br.tt ?_); conv => whnf) | ((with_reducible refine Br.ff ?_); conv => whnf) | ((with_reducible refine Br.dt ?_ ?_); (focus (first | assumption | omega)); conv => whnf))
            | ((with_reducible refine SIx.nat ?_ ?_); (focus (omega)); conv => whnf)
            | ((with_reducible refine Br.ds (fun _ => ?_) (fun _ => ?_) ) <;> (conv => whnf)))
          all_goals first | (refine Is.ent ?_ ?_; (focus (exact Ent.rfl)); (exact Is.rfl)) | (exfalso; omega)
      · have e0 : k = s.size := by omega
        subst e0
        rw [← hsl, List.take_length] at g2
        have hyes : NumA s := ⟨h1, h2, h3, g3⟩
        have e1 : numX s = n := by unfold numX; rw [if_pos hyes, g2]
        have e2 : decide (0 ≤ numA s m) = decide (n ≤ m) := by
          refine decide_eq_decide.2 ?_
          unfold numA
          rw [← g2]
          by_cases hmm : n ≤ m
          · rw [if_pos ⟨hyes, hmm⟩]; omega
          · rw [if_neg (fun h => hmm h.2)]; omega
        rw [e1, e2]
        clear g2 g3 e1 e2 hyes
        conv => whnf
        repeat' ((with_reducible refine Br.df ?_ ?_); (focus (first | assumption | omega)); conv => whnf)
        all_goals first | (refine Is.ent ?_ ?_; (focus (exact Ent.rfl)); (exact Is.rfl)) | (exfalso; omega))
  · have hno : ¬ NumA s := fun h => h1 ⟨h.ne, h.le, h.lead⟩
    have e1 : numX s = 0 := if_neg hno
    have e2 : numA s m = -1 := if_neg (fun h => hno h.1)
    rw [e1, show decide (0 ≤ numA s m) = false from decide_eq_false (by rw [e2]; decide)]
    clear hno e1 e2
    by_cases h0 : s.size = 0
    · have := size_zero h0
      subst this
      refine con_of Tryd.tysOk Tryd.func85 rfl rfl ?_
      conv => whnf
      repeat' (first | ((with_reducible refine Br.tt ?_); conv => whnf) | ((with_reducible refine Br.yes ?_ ?_); (focus (first | (simp; done) | (simp; omega))); conv => whnf))
      all_goals first | (refine Is.ent ?_ ?_; (focus (exact Ent.rfl)); (exact Is.rfl)) | (exfalso; omega)
    · have hne : ¬ s = ⟨#[]⟩ := fun e => h0 (by rw [e]; rfl)
      have h4 : 5 < s.size ∨ (2 ≤ s.size ∧ s.size ≤ 5 ∧ (sAt s 0).toNat = 48) := by
        rcases Nat.lt_or_ge 5 s.size with h | h
        · exact .inl h
        · refine .inr (Classical.byContradiction fun hc => h1 ⟨by omega, h, fun h2 h3 => hc ⟨h2, h, h3⟩⟩)
      clear h1
      rcases h4 with h4 | ⟨h4, h5, h6⟩
      · refine con_of Tryd.tysOk Tryd.func85 rfl rfl ?_
        conv => whnf
        repeat' (first | ((with_reducible refine Br.tt ?_); conv => whnf) | ((with_reducible refine Br.ff ?_); conv => whnf) | ((with_reducible refine Br.dt ?_ ?_); (focus (first | assumption | omega)); conv => whnf) | ((with_reducible refine Br.df ?_ ?_); (focus (first | assumption | omega)); conv => whnf))
        all_goals first | (refine Is.ent ?_ ?_; (focus (exact Ent.rfl)); (exact Is.rfl)) | (exfalso; omega)
      · refine con_of Tryd.tysOk Tryd.func85 rfl rfl ?_
        conv => whnf
        repeat' (first
          | (first | ((with_reducible refine Br.tt ?_); conv => whnf) | ((with_reducible refine Br.ff ?_); conv => whnf) | ((with_reducible refine Br.dt ?_ ?_); (focus (first | assumption | omega)); conv => whnf) | ((with_reducible refine Br.df ?_ ?_); (focus (first | assumption | omega)); conv => whnf) | ((with_reducible refine Br.yes ?_ ?_); (focus (first | (simp; done) | (simp; omega))); conv => whnf))
          | ((with_reducible refine SIx.mk' ?_ ?_); (focus (omega)); conv => whnf))
        all_goals first | (refine Is.ent ?_ ?_; (focus (exact Ent.rfl)); (exact Is.rfl)) | (exfalso; omega)
theorem numX_eq {s : ByteArray} {m : Int} (h : 0 ≤ numA s m) : numX s = numA s m := by
  unfold numX
  unfold numA at h ⊢
  by_cases hc : NumA s ∧ numV s.data.toList ≤ m
  · rw [if_pos hc, if_pos hc.1]
  · rw [if_neg hc] at h; omega
theorem Tryd.asmPlain (s : ByteArray) (m : Int) (L : List HP) (hs : s.size ≤ 1000000000) (hm : 0 ≤ m ∧ m ≤ 65535) (h : 0 ≤ numA s m) : Con Tryd.prog 68 [.string s, .int .i64 m] L (Is (.int .i64 (numA s m)) L) := by
  have hn := fun L => Tryd.asmNumber s m L hs hm
  rw [decide_eq_true h, numX_eq h] at hn
  refine con_of Tryd.tysOk Tryd.func68 rfl rfl ?_
  conv => whnf
  repeat' (first
    | ((with_reducible refine Br.nt ?_); conv => whnf)
    | ((with_reducible refine Nd.mk ?_ ?_); (focus (first | omega | rfl | assumption | (simp; done))); conv => whnf)
    | ((with_reducible refine Cl.is (hn _) ?_); conv => whnf))
  all_goals first | (exfalso; omega) | (refine Is.ent ?_ ?_; (focus (exact Ent.rfl)); (exact Is.rfl))
theorem Tryd.asmPlainNo (s : ByteArray) (m : Int) (L : List HP) (hs : s.size ≤ 1000000000) (hm : 0 ≤ m ∧ m ≤ 65535) (h : ¬ 0 ≤ numA s m) : Con Tryd.prog 68 [.string s, .int .i64 m] L (fun _ _ => False) (Tryd.PanX 3 L) := by
  have hn := fun L => Tryd.asmNumber s m L hs hm
  rw [decide_eq_false h] at hn
  refine con_of Tryd.tysOk Tryd.func68 rfl rfl ?_
  conv => whnf
  repeat' (first
    | ((with_reducible refine Br.nf ?_); conv => whnf)
    | ((with_reducible refine Nd.mk ?_ ?_); (focus (first | omega | rfl | assumption | (simp; done))); conv => whnf)
    | (first | ((with_reducible refine Cl.is (hn _) ?_); conv => whnf) | ((with_reducible refine (?_ : Cl _ 46 _ _ _ _)); (refine Cl.pan (Tryd.asmGive _ _) (fun ch L' h => ?_)); conv => whnf)))
  all_goals first | (exfalso; omega) | exact ⟨h.ch, fun w s => (by (exact Ent.rfl) : Ent _ L) w (h.l w s)⟩
theorem reg_cases (s : ByteArray) : (0 ≤ regA s ∧ s.size = 2 ∧ (sAt s 0).toNat = 114 ∧ 0 ≤ numA (s.extract 1 s.size) 7 ∧ regA s = numA (s.extract 1 s.size) 7) ∨ (¬ 0 ≤ regA s ∧ (s.size ≠ 2 ∨ (s.size = 2 ∧ (sAt s 0).toNat ≠ 114) ∨ (s.size = 2 ∧ (sAt s 0).toNat = 114 ∧ ¬ 0 ≤ numA (s.extract 1 s.size) 7))) := by
  unfold regA
  by_cases h1 : s.size = 2
  · by_cases h2 : (sAt s 0).toNat = 114
    · rw [if_pos ⟨h1, h2⟩]
      by_cases h3 : 0 ≤ numA (s.extract 1 s.size) 7
      · exact .inl ⟨h3, h1, h2, h3, rfl⟩
      · exact .inr ⟨h3, .inr (.inr ⟨h1, h2, h3⟩)⟩
    · rw [if_neg (fun h => h2 h.2)]
      exact .inr ⟨by decide, .inr (.inl ⟨h1, h2⟩)⟩
  · rw [if_neg (fun h => h1 h.1)]
    exact .inr ⟨by decide, .inl h1⟩
theorem Tryd.asmRegister (s : ByteArray) (L : List HP) (hs : s.size ≤ 1000000000) (h : 0 ≤ regA s) : Con Tryd.prog 87 [.string s] L (Is (.int .i64 (regA s)) L) := by
  rcases reg_cases s with ⟨_, h1, h2, h3, h4⟩ | ⟨h', _⟩
  · rw [h4]
    have hp := fun L => Tryd.asmPlain (s.extract 1 s.size) 7 L (by rw [ByteArray.size_extract]; omega) (by omega) h3
    have hu := u8_lt (sAt s 0)
    clear h h4 h3
    refine con_of Tryd.tysOk Tryd.func87 rfl rfl ?_
    conv => whnf
    repeat' (first
      | (first | ((with_reducible refine Br.ff ?_); conv => whnf) | ((with_reducible refine Br.ndf ?_ ?_); (focus (first | assumption | omega)); conv => whnf) | ((with_reducible refine Br.no ?_ ?_); (focus (first | (simp; done) | (simp; omega))); conv => whnf))
      | ((with_reducible refine SIx.mk' ?_ ?_); (focus (omega)); conv => whnf)
      | ((with_reducible refine SubS.suf ?_ ?_); (focus (omega)); conv => whnf)
      | ((with_reducible refine (?_ : Cl _ 68 _ _ _ _)); (refine Cl.is (hp _) ?_); conv => whnf))
    all_goals first | (exfalso; omega) | (refine Is.ent ?_ ?_; (focus (exact Ent.rfl)); (exact Is.rfl))
  · exact absurd h h'
theorem Tryd.asmRegisterNo (s : ByteArray) (L : List HP) (hs : s.size ≤ 1000000000) (h : ¬ 0 ≤ regA s) : Con Tryd.prog 87 [.string s] L (fun _ _ => False) (Tryd.PanX 3 L) := by
  have hu := u8_lt (sAt s 0)
  rcases reg_cases s with ⟨h', _⟩ | ⟨_, h1 | ⟨h1, h2⟩ | ⟨h1, h2, h3⟩⟩
  · exact absurd h' h
  · clear h
    refine con_of Tryd.tysOk Tryd.func87 rfl rfl ?_
    conv => whnf
    repeat' (first
      | (first | ((with_reducible refine Br.tt ?_); conv => whnf) | ((with_reducible refine Br.ndt ?_ ?_); (focus (first | assumption | omega)); conv => whnf))
      | ((with_reducible refine (?_ : Cl _ 46 _ _ _ _)); (refine Cl.pan (Tryd.asmGive _ _) (fun ch L' h => ?_)); conv => whnf))
    all_goals first | (exfalso; omega) | exact ⟨h.ch, fun w s => (by (exact Ent.rfl) : Ent _ L) w (h.l w s)⟩
  · clear h
    refine con_of Tryd.tysOk Tryd.func87 rfl rfl ?_
    conv => whnf
    repeat' (first
      | (first | ((with_reducible refine Br.ff ?_); conv => whnf) | ((with_reducible refine Br.ndf ?_ ?_); (focus (first | assumption | omega)); conv => whnf) | ((with_reducible refine Br.yes ?_ ?_); (focus (first | (simp; done) | (simp; omega))); conv => whnf))
      | ((with_reducible refine SIx.mk' ?_ ?_); (focus (omega)); conv => whnf)
      | ((with_reducible refine (?_ : Cl _ 46 _ _ _ _)); (refine Cl.pan (Tryd.asmGive _ _) (fun ch L' h => ?_)); conv => whnf))
    all_goals first | (exfalso; omega) | exact ⟨h.ch, fun w s => (by (exact Ent.rfl) : Ent _ L) w (h.l w s)⟩
  · have hp := fun L => Tryd.asmPlainNo (s.extract 1 s.size) 7 L (by rw [ByteArray.size_extract]; omega) (by omega) h3
    clear h h3
    refine con_of Tryd.tysOk Tryd.func87 rfl rfl ?_
    conv => whnf
    repeat' (first
      | (first | ((with_reducible refine Br.ff ?_); conv => whnf) | ((with_reducible refine Br.ndf ?_ ?_); (focus (first | assumption | omega)); conv => whnf) | ((with_reducible refine Br.no ?_ ?_); (focus (first | (simp; done) | (simp; omega))); conv => whnf))
      | ((with_reducible refine SIx.mk' ?_ ?_); (focus (omega)); conv => whnf)
      | ((with_reducible refine SubS.suf ?_ ?_); (focus (omega)); conv => whnf)
      | ((with_reducible refine (?_ : Cl _ 68 _ _ _ _)); (refine Cl.pan (hp _) (fun ch L' h => ?_)); conv => whnf))
    all_goals first | (exfalso; omega) | exact ⟨h.ch, fun w s => (by (exact Ent.rfl) : Ent _ L) w (h.l w s)⟩
end Go.Proofs
