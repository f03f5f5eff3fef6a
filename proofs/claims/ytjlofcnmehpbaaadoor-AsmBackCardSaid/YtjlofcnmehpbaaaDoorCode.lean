/- Instructions as bytes: the reader, and what an instruction may be: contracts. -/
import Derived.Test.YtjlofcnmehpbaaaDoorEngReg
import Derived.Test.YtjlofcnmehpbaaaDoorBits
set_option linter.all false
namespace Go.Proofs
open Go.Eng
set_option linter.unusedVariables false
set_option maxRecDepth 100000
set_option maxHeartbeats 2000000
abbrev i64W (n : Int) : Value := .int .i64 n
abbrev u8W (n : Int) : Value := .int .u8 n
/-- a reader -/
abbrev rdC (e : Int) (s : ByteArray) (at_ : Int) : List Value := [i64W e, .string s, i64W at_]
theorem sAt_extract {s : ByteArray} {l h k : Nat} (hl : l + k < h) (hh : h ≤ s.size) : sAt (s.extract l h) k = sAt s (l + k) := by
  unfold sAt
  rw [extract_list, getD_drop, getD_take hl]
theorem str_ne {s : ByteArray} (h : 0 < s.size) : ¬ s = ⟨#[]⟩ := fun e => by subst e; exact Nat.lt_irrefl 0 h
/-- may an instruction be? -/
abbrev mayI (c x n : Int) : Prop := 0 ≤ c ∧ c ≤ 15 ∧ 0 ≤ x ∧ x ≤ 7 ∧ 0 ≤ n ∧ n ≤ 65535 ∧ (2 ≤ c ∧ c ≤ 10 → n ≤ 7) ∧ (c = 0 ∨ c = 15 → n = 0) ∧ (c = 0 ∨ c = 15 ∨ c = 11 → x = 0)
abbrev insV (c x n : Int) : Value := .agg #[u8W c, i64W x, i64W n]
theorem Tryd.refMay (c x n : Int) (L : List HP) (hc : 0 ≤ c ∧ c ≤ 255) : Con Tryd.prog 12 [insV c x n] L (Is (.bool (decide (mayI c x n))) L) := by
  refine con_of Tryd.tysOk Tryd.func12 rfl rfl ?_
  conv => whnf
  repeat' (first
    | (first | ((with_reducible refine Br.tt ?_); conv => whnf) | ((with_reducible refine Br.ff ?_); conv => whnf) | ((with_reducible refine Br.df ?_ ?_); (focus (first | assumption | omega)); conv => whnf) | ((with_reducible refine Br.ndt ?_ ?_); (focus (first | assumption | omega)); conv => whnf) | ((with_reducible refine Br.ndf ?_ ?_); (focus (first | assumption | omega)); conv => whnf))
    | ((with_reducible refine Ar.i64 ?_ ?_); (focus omega); conv => whnf)
    | ((with_reducible refine Nc.go' (fun _ => ?_)); conv => whnf)
    | (refine Ld.at 0 rfl rfl ?_; conv => whnf)
    | (first | ((with_reducible refine Br.ds (fun _ => ?_) (fun _ => ?_) ) <;> (conv => whnf)) | ((with_reducible refine Br.nds (fun _ => ?_) (fun _ => ?_) ) <;> (conv => whnf))))
  all_goals (refine Is.ent ?_ ?_; (focus (refine FEnt.ent ?_; (repeat (first | exact FEnt.rfl | refine FEnt.drop ?_)); done)); (first | exact Is.tt (by omega) | exact Is.ff (by omega) | (refine Is.dec ?_; omega)))
theorem Tryd.codeRegister (c : Int) (L : List HP) : Con Tryd.prog 26 [u8W c] L (Is (.bool (decide (2 ≤ c ∧ c ≤ 10))) L) := by
  refine con_of Tryd.tysOk Tryd.func26 rfl rfl ?_
  conv => whnf
  repeat' (first
    | ((with_reducible refine Br.dt ?_ ?_); (focus (first | assumption | omega)); conv => whnf)
    | ((with_reducible refine Br.ds (fun _ => ?_) (fun _ => ?_) ) <;> (conv => whnf)))
  all_goals (refine Is.ent ?_ ?_; (focus (exact Ent.rfl)); (first | exact Is.tt (by omega) | exact Is.ff (by omega)))
/-- the codes' names -/
def nameL : List ByteArray := [⟨#[115, 116, 111, 112]⟩, ⟨#[115, 101, 116]⟩, ⟨#[109, 111, 118, 101]⟩, ⟨#[97, 100, 100]⟩, ⟨#[115, 117, 98]⟩, ⟨#[97, 110, 100]⟩, ⟨#[120, 111, 114]⟩, ⟨#[114, 101, 97, 100]⟩, ⟨#[119, 114, 105, 116, 101]⟩, ⟨#[114, 101, 97, 100, 50]⟩, ⟨#[119, 114, 105, 116, 101, 50]⟩, ⟨#[106, 117, 109, 112]⟩, ⟨#[122, 101, 114, 111]⟩, ⟨#[108, 101, 115, 115]⟩, ⟨#[99, 97, 108, 108]⟩, ⟨#[114, 101, 115, 116]⟩]
def nameF (c : Int) : ByteArray := nameL.getD c.toNat ⟨#[]⟩
theorem nameF_none {c : Int} (h0 : 0 ≤ c) : nameF c = ⟨#[]⟩ ↔ 16 ≤ c := by
  constructor
  · intro h
    rcases Int.lt_or_le c 16 with hlt | hle
    · have key : ∀ k, k < 16 → nameL.getD k ⟨#[]⟩ ≠ ⟨#[]⟩ := by decide
      exact (key c.toNat (by omega) h).elim
    · exact hle
  · intro h
    unfold nameF
    rw [List.getD_eq_getElem?_getD, List.getElem?_eq_none (by show 16 ≤ c.toNat; omega)]
    rfl
theorem Tryd.codeNames (L : List HP) : Con Tryd.prog 40 [] L (New strE 9 nameL L) := by
  refine con_of Tryd.tysOk Tryd.func40 rfl rfl ?_
  conv => whnf
  repeat' ((with_reducible refine Nc.go' (fun _ => ?_)); conv => whnf)
  all_goals exact New.of rfl (by decide) (fun _ => rfl) (Ent.own nameL rfl (by decide))
theorem Tryd.codeName (c : Int) (L : List HP) (hc : 0 ≤ c ∧ c ≤ 255) : Con Tryd.prog 24 [u8W c] L (Is (.string (nameF c)) L) := by
  have hl : nameL.length = 16 := rfl
  by_cases h : c < 16
  · refine con_of Tryd.tysOk Tryd.func24 rfl rfl ?_
    conv => whnf
    repeat' (first
      | ((with_reducible refine Br.dt ?_ ?_); (focus (first | assumption | omega)); conv => whnf)
      | ((with_reducible refine Ar.i64 ?_ ?_); (focus omega); conv => whnf)
      | ((with_reducible refine Ix.ad ?_ ?_ ?_); (focus (assumption)); (focus (omega)); conv => whnf)
      | ((apply Ld.rd0); (focus ((repeat ((refine Rd.own 0 rfl ?_); (assumption))); done)); (focus rfl); (focus (omega)); (focus rfl); conv => whnf)
      | ((with_reducible refine Cl.new (Tryd.codeNames _) (fun _ _ _ _ => ?_)); conv => whnf))
    all_goals (refine Is.ent ?_ ?_; (focus (refine FEnt.ent ?_; (repeat (first | exact FEnt.rfl | refine FEnt.drop ?_)); done)); (exact Is.rfl))
  · have e : nameF c = ⟨#[]⟩ := (nameF_none hc.1).2 (by omega)
    rw [e]
    refine con_of Tryd.tysOk Tryd.func24 rfl rfl ?_
    conv => whnf
    repeat' (first
      | ((with_reducible refine Br.df ?_ ?_); (focus (first | assumption | omega)); conv => whnf)
      | ((with_reducible refine Ar.i64 ?_ ?_); (focus omega); conv => whnf)
      | ((with_reducible refine Cl.new (Tryd.codeNames _) (fun _ _ _ _ => ?_)); conv => whnf))
    all_goals (refine Is.ent ?_ ?_; (focus (refine FEnt.ent ?_; (repeat (first | exact FEnt.rfl | refine FEnt.drop ?_)); done)); (exact Is.rfl))
theorem Tryd.codeMay (c x n : Int) (L : List HP) (hc : 0 ≤ c ∧ c ≤ 255) : Con Tryd.prog 23 [insV c x n] L (Is (.bool (decide (mayI c x n))) L) := by
  by_cases h16 : 16 ≤ c
  · have hn := (nameF_none hc.1).2 h16
    refine con_of Tryd.tysOk Tryd.func23 rfl rfl ?_
    conv => whnf
    repeat' (first
      | (first | ((with_reducible refine Br.tt ?_); conv => whnf) | ((with_reducible refine Br.dt ?_ ?_); (focus (first | assumption | omega)); conv => whnf) | ((with_reducible refine Br.df ?_ ?_); (focus (first | assumption | omega)); conv => whnf))
      | ((with_reducible refine Nc.go' (fun _ => ?_)); conv => whnf)
      | (refine Ld.at 0 rfl rfl ?_; conv => whnf)
      | (first | ((with_reducible refine Cl.is (Tryd.codeRegister _ _) ?_); conv => whnf) | ((with_reducible refine Cl.is (Tryd.codeName _ _ hc) ?_); conv => whnf)))
    all_goals (refine Is.ent ?_ ?_; (focus (refine FEnt.ent ?_; (repeat (first | exact FEnt.rfl | refine FEnt.drop ?_)); done)); (exact Is.ff (by omega)))
  · have hn : ¬ nameF c = ⟨#[]⟩ := fun e => h16 ((nameF_none hc.1).1 e)
    by_cases hr : 2 ≤ c ∧ c ≤ 10
    · refine con_of Tryd.tysOk Tryd.func23 rfl rfl ?_
      conv => whnf
      repeat' (first
        | (first | ((with_reducible refine Br.tt ?_); conv => whnf) | ((with_reducible refine Br.ff ?_); conv => whnf) | ((with_reducible refine Br.df ?_ ?_); (focus (first | assumption | omega)); conv => whnf))
        | ((with_reducible refine Nc.go' (fun _ => ?_)); conv => whnf)
        | (refine Ld.at 0 rfl rfl ?_; conv => whnf)
        | (first | ((with_reducible refine Cl.is (Con.dt hr (Tryd.codeRegister _ _)) ?_); conv => whnf) | ((with_reducible refine Cl.is (Tryd.codeName _ _ hc) ?_); conv => whnf))
        | ((with_reducible refine Br.ds (fun _ => ?_) (fun _ => ?_) ) <;> (conv => whnf)))
      all_goals (refine Is.ent ?_ ?_; (focus (refine FEnt.ent ?_; (repeat (first | exact FEnt.rfl | refine FEnt.drop ?_)); done)); (first | exact Is.tt (by omega) | exact Is.ff (by omega)))
    · refine con_of Tryd.tysOk Tryd.func23 rfl rfl ?_
      conv => whnf
      repeat' (first
        | (first | ((with_reducible refine Br.tt ?_); conv => whnf) | ((with_reducible refine Br.ff ?_); conv => whnf) | ((with_reducible refine Br.df ?_ ?_); (focus (first | assumption | omega)); conv => whnf))
        | ((with_reducible refine Nc.go' (fun _ => ?_)); conv => whnf)
        | (refine Ld.at 0 rfl rfl ?_; conv => whnf)
        | (first | ((with_reducible refine Cl.is (Con.df hr (Tryd.codeRegister _ _)) ?_); conv => whnf) | ((with_reducible refine Cl.is (Tryd.codeName _ _ hc) ?_); conv => whnf))
        | ((with_reducible refine Br.ds (fun _ => ?_) (fun _ => ?_) ) <;> (conv => whnf)))
      all_goals (refine Is.ent ?_ ?_; (focus (refine FEnt.ent ?_; (repeat (first | exact FEnt.rfl | refine FEnt.drop ?_)); done)); (first | exact Is.tt (by omega) | exact Is.ff (by omega) | (refine Is.dec ?_; omega)))
/-- four bytes' instruction -/
abbrev insC (s : ByteArray) : Int := ((sAt s 0).toNat : Int)
abbrev insX (s : ByteArray) : Int := ((sAt s 1).toNat : Int)
abbrev insN (s : ByteArray) : Int := ((sAt s 2).toNat : Int) + 256 * ((sAt s 3).toNat : Int)
abbrev insOk (s : ByteArray) : Prop := mayI (insC s) (insX s) (insN s)
theorem insC_ok (s : ByteArray) : 0 ≤ insC s ∧ insC s ≤ 255 := ⟨Int.natCast_nonneg _, u8_lt _⟩
end Go.Proofs
