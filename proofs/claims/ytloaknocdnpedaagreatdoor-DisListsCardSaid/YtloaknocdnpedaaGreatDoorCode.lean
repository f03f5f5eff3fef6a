/- Instructions as bytes: the reader, and what an instruction may be: contracts. -/
import Derived.Test.YtloaknocdnpedaaGreatDoorEngReg
import Derived.Test.YtloaknocdnpedaaGreatDoorBits
set_option linter.all false
namespace Go.Proofs
open Go.Eng
set_option linter.unusedVariables false
set_option maxRecDepth 100000
set_option maxHeartbeats 2000000
abbrev i64W (n : Int) : Value := .int .i64 n
abbrev u8W (n : Int) : Value := .int .u8 n
/-- a reader -/
abbrev rdC (e : Int) (s : ByteArray) (at_ : Int) : List Value := [i64W e, .string s, i64W at_]
theorem sAt_extract {s : ByteArray} {l h k : Nat} (hl : l + k < h) (hh : h ≤ s.size) : sAt (s.extract l h) k = sAt s (l + k) := by
  unfold sAt
  rw [extract_list, getD_drop, getD_take hl]
theorem str_ne {s : ByteArray} (h : 0 < s.size) : ¬ s = ⟨#[]⟩ := fun e => by subst e; exact Nat.lt_irrefl 0 h
theorem Tryz.rdNew (s : ByteArray) (L : List HP) : Con Tryz.prog 46 [.string s] L (Exs (fun b : Nat => .pointer (some ⟨b, 0, none⟩)) (fun b => ptc b 106 (rdC 0 s 0) :: L) (fun _ => True)) := by
  refine con_of Tryz.tysOk Tryz.func46 rfl rfl ?_
  conv => whnf
  repeat' ((with_reducible refine Nc.go' (fun b => ?_)); conv => whnf)
  all_goals exact Exs.of _ Ent.rfl trivial rfl
theorem Tryz.rdTake (b : Nat) (s : ByteArray) (k n : Nat) (L : List HP) (hn : k + n ≤ s.size) (hs : s.size ≤ 1000000000) :
    Con Tryz.prog 65 [.pointer (some ⟨b, 0, none⟩), i64W n] (ptc b 106 (rdC 0 s k) :: L) (Is (.string (s.extract k (k + n))) (ptc b 106 (rdC 0 s ((k + n : Nat) : Int)) :: L)) := by
  refine con_of Tryz.tysOk Tryz.func65 rfl rfl ?_
  conv => whnf
  repeat' (first
    | (first | ((with_reducible refine Br.ff ?_); conv => whnf) | ((with_reducible refine Br.sn ?_); conv => whnf) | ((with_reducible refine Br.df ?_ ?_); (focus (first | assumption | omega)); conv => whnf) | ((with_reducible refine Br.ndf ?_ ?_); (focus (first | assumption | omega)); conv => whnf))
    | ((with_reducible refine Ar.i64 ?_ ?_); (focus omega); conv => whnf)
    | ((with_reducible refine Nd.mk ?_ ?_); (focus (first | omega | rfl | assumption | (simp; done))); conv => whnf)
    | ((with_reducible refine SubS.mid ?_ ?_); (focus (omega)); conv => whnf)
    | (refine Ld.at 0 rfl rfl ?_; conv => whnf)
    | (refine St.at 0 rfl (by first | exact Nat.le_of_ble_eq_true rfl | (simp; done)) rfl ?_; conv => whnf)
    | ((with_reducible refine Dr.by (id := 6) Tryz.tysOk rfl [(0, 0), (1, 0), (2, 0), (3, 0), (6, 0), (7, 0), (8, 0), (4, 1), (5, 0), (9, 1), (10, 0), (11, 0), (12, 0)] ?_ ?_); (focus kernel_rfl); conv => whnf)
    | ((with_reducible refine Dr.by (id := 9) Tryz.tysOk rfl [(0, 0), (1, 0), (2, 0), (4, 0), (5, 0), (6, 0), (8, 0), (9, 0), (10, 0), (12, 0), (3, 1), (7, 1), (11, 1), (13, 0), (14, 0), (15, 0)] ?_ ?_); (focus kernel_rfl); conv => whnf))
  all_goals (refine Is.ent ?_ ?_; (focus (exact Ent.rfl)); (exact Is.rfl))
theorem Tryz.rdByte (b : Nat) (s : ByteArray) (k : Nat) (L : List HP) (hn : k + 1 ≤ s.size) (hs : s.size ≤ 1000000000) :
    Con Tryz.prog 47 [.pointer (some ⟨b, 0, none⟩)] (ptc b 106 (rdC 0 s k) :: L) (Is (i64W (sAt s k).toNat) (ptc b 106 (rdC 0 s ((k + 1 : Nat) : Int)) :: L)) := by
  have hz := extract_size s k (k + 1) (by omega) hn
  have hne : ¬ s.extract k (k + 1) = ⟨#[]⟩ := str_ne (by omega)
  have e0 : sAt (s.extract k (k + 1)) 0 = sAt s k := sAt_extract (by omega) hn
  refine con_of Tryz.tysOk Tryz.func47 rfl rfl ?_
  conv => whnf
  repeat' (first
    | ((with_reducible refine Br.df ?_ ?_); (focus (first | assumption | omega)); conv => whnf)
    | ((with_reducible refine Ar.i64b ?_); conv => whnf)
    | ((with_reducible refine SIx.mk' ?_ ?_); (focus (omega)); conv => whnf)
    | ((refine Cl.isAt 0 rfl (Tryz.rdTake _ s k 1 _ hn hs) ?_); conv => whnf))
  all_goals exact Is.ent (by (exact Ent.rfl)) (Is.val (by rw [← e0]; rfl))
theorem Tryz.rdTwo (b : Nat) (s : ByteArray) (k : Nat) (L : List HP) (hn : k + 2 ≤ s.size) (hs : s.size ≤ 1000000000) :
    Con Tryz.prog 48 [.pointer (some ⟨b, 0, none⟩)] (ptc b 106 (rdC 0 s k) :: L) (Is (i64W ((sAt s k).toNat + 256 * (sAt s (k + 1)).toNat)) (ptc b 106 (rdC 0 s ((k + 2 : Nat) : Int)) :: L)) := by
  have hz := extract_size s k (k + 2) (by omega) hn
  have hne : ¬ s.extract k (k + 2) = ⟨#[]⟩ := str_ne (by omega)
  have e0 : sAt (s.extract k (k + 2)) 0 = sAt s k := sAt_extract (by omega) hn
  have e1 : sAt (s.extract k (k + 2)) 1 = sAt s (k + 1) := sAt_extract (by omega) hn
  refine con_of Tryz.tysOk Tryz.func48 rfl rfl ?_
  conv => whnf
  repeat' (first
    | ((with_reducible refine Br.df ?_ ?_); (focus (first | assumption | omega)); conv => whnf)
    | ((with_reducible refine Ar.i64b ?_); conv => whnf)
    | ((with_reducible refine SIx.mk' ?_ ?_); (focus (omega)); conv => whnf)
    | ((with_reducible refine Dr.by (id := 4) Tryz.tysOk rfl [(0, 0), (1, 0), (2, 0), (3, 0), (4, 0), (5, 0), (6, 1), (7, 0)] ?_ ?_); (focus kernel_rfl); conv => whnf)
    | ((with_reducible refine CD.is (fun M => Tryz.twoB _ _ _) ?_); conv => whnf)
    | ((refine Cl.isAt 0 rfl (Tryz.rdTake _ s k 2 _ hn hs) ?_); conv => whnf))
  all_goals exact Is.ent (by (exact Ent.rfl)) (Is.val (by rw [← e0, ← e1]; rfl))
theorem Tryz.rdErr (b : Nat) (e : Int) (s : ByteArray) (k : Int) (L : List HP) :
    Con Tryz.prog 49 [.pointer (some ⟨b, 0, none⟩)] (ptc b 106 (rdC e s k) :: L) (Is (i64W e) (ptc b 106 (rdC e s k) :: L)) := by
  refine con_of Tryz.tysOk Tryz.func49 rfl rfl ?_
  conv => whnf
  repeat' (first
    | ((with_reducible refine Br.sn ?_); conv => whnf)
    | (refine Ld.at 0 rfl rfl ?_; conv => whnf))
  all_goals (refine Is.ent ?_ ?_; (focus (exact Ent.rfl)); (exact Is.rfl))
/-- may an instruction be? -/
abbrev mayI (c x n : Int) : Prop := 0 ≤ c ∧ c ≤ 15 ∧ 0 ≤ x ∧ x ≤ 7 ∧ 0 ≤ n ∧ n ≤ 65535 ∧ (2 ≤ c ∧ c ≤ 10 → n ≤ 7) ∧ (c = 0 ∨ c = 15 → n = 0) ∧ (c = 0 ∨ c = 15 ∨ c = 11 → x = 0)
abbrev insV (c x n : Int) : Value := .agg #[u8W c, i64W x, i64W n]
theorem Tryz.refMay (c x n : Int) (L : List HP) (hc : 0 ≤ c ∧ c ≤ 255) : Con Tryz.prog 42 [insV c x n] L (Is (.bool (decide (mayI c x n))) L) := by
  refine con_of Tryz.tysOk Tryz.func42 rfl rfl ?_
  conv => whnf
  repeat' (first
    | (first | ((with_reducible refine Br.tt ?_); conv => whnf) | ((with_reducible refine Br.ff ?_); conv => whnf) | ((with_reducible refine Br.df ?_ ?_); (focus (first | assumption | omega)); conv => whnf) | ((with_reducible refine Br.ndt ?_ ?_); (focus (first | assumption | omega)); conv => whnf) | ((with_reducible refine Br.ndf ?_ ?_); (focus (first | assumption | omega)); conv => whnf))
    | ((with_reducible refine Ar.i64 ?_ ?_); (focus omega); conv => whnf)
    | ((with_reducible refine Nc.go' (fun b => ?_)); conv => whnf)
    | (refine Ld.at 0 rfl rfl ?_; conv => whnf)
    | (first | ((with_reducible refine Br.ds (fun _ => ?_) (fun _ => ?_) ) <;> (conv => whnf)) | ((with_reducible refine Br.nds (fun _ => ?_) (fun _ => ?_) ) <;> (conv => whnf))))
  all_goals (refine Is.ent ?_ ?_; (focus (refine FEnt.ent ?_; (repeat (first | exact FEnt.rfl | refine FEnt.drop ?_)); done)); (first | exact Is.tt (by omega) | exact Is.ff (by omega) | (refine Is.dec ?_; omega)))
theorem Tryz.codeRegister (c : Int) (L : List HP) : Con Tryz.prog 54 [u8W c] L (Is (.bool (decide (2 ≤ c ∧ c ≤ 10))) L) := by
  refine con_of Tryz.tysOk Tryz.func54 rfl rfl ?_
  conv => whnf
  repeat' (first
    | ((with_reducible refine Br.dt ?_ ?_); (focus (first | assumption | omega)); conv => whnf)
    | ((with_reducible refine Br.ds (fun _ => ?_) (fun _ => ?_) ) <;> (conv => whnf)))
  all_goals (refine Is.ent ?_ ?_; (focus (exact Ent.rfl)); (first | exact Is.tt (by omega) | exact Is.ff (by omega)))
/-- the codes' names -/
def nameL : List ByteArray := [⟨#[115, 116, 111, 112]⟩, ⟨#[115, 101, 116]⟩, ⟨#[109, 111, 118, 101]⟩, ⟨#[97, 100, 100]⟩, ⟨#[115, 117, 98]⟩, ⟨#[97, 110, 100]⟩, ⟨#[120, 111, 114]⟩, ⟨#[114, 101, 97, 100]⟩, ⟨#[119, 114, 105, 116, 101]⟩, ⟨#[114, 101, 97, 100, 50]⟩, ⟨#[119, 114, 105, 116, 101, 50]⟩, ⟨#[106, 117, 109, 112]⟩, ⟨#[122, 101, 114, 111]⟩, ⟨#[108, 101, 115, 115]⟩, ⟨#[99, 97, 108, 108]⟩, ⟨#[114, 101, 115, 116]⟩]
def nameF (c : Int) : ByteArray := nameL.getD c.toNat ⟨#[]⟩
theorem nameF_none {c : Int} (h0 : 0 ≤ c) : nameF c = ⟨#[]⟩ ↔ 16 ≤ c := by
  constructor
  · intro h
    rcases Int.lt_or_le c 16 with hlt | hle
    · have key : ∀ k, k < 16 → nameL.getD k ⟨#[]⟩ ≠ ⟨#[]⟩ := by decide
      exact (key c.toNat (by omega) h).elim
    · exact hle
  · intro h
    unfold nameF
    rw [List.getD_eq_getElem?_getD, List.getElem?_eq_none (by show 16 ≤ c.toNat; omega)]
    rfl
theorem Tryz.codeNames (L : List HP) : Con Tryz.prog 68 [] L (New strE 9 nameL L) := by
  refine con_of Tryz.tysOk Tryz.func68 rfl rfl ?_
  conv => whnf
  repeat' ((with_reducible refine Nc.go' (fun b => ?_)); conv => whnf)
  all_goals exact New.of rfl (by decide) (fun _ => rfl) (Ent.own nameL rfl (by decide))
theorem Tryz.codeName (c : Int) (L : List HP) (hc : 0 ≤ c ∧ c ≤ 255) : Con Tryz.prog 53 [u8W c] L (Is (.string (nameF c)) L) := by
  have hl : nameL.length = 16 := rfl
  by_cases h : c < 16
  · refine con_of Tryz.tysOk Tryz.func53 rfl rfl ?_
    conv => whnf
    repeat' (first
      | ((with_reducible refine Br.dt ?_ ?_); (focus (first | assumption | omega)); conv => whnf)
      | ((with_reducible refine Ar.i64 ?_ ?_); (focus omega); conv => whnf)
      | ((with_reducible refine Ix.ad ?_ ?_ ?_); (focus (assumption)); (focus (omega)); conv => whnf)
      | ((apply Ld.rd0); (focus ((repeat ((refine Rd.own 0 rfl ?_); (assumption))); done)); (focus rfl); (focus (omega)); (focus rfl); conv => whnf)
      | ((with_reducible refine Cl.new (Tryz.codeNames _) (fun _ _ _ _ => ?_)); conv => whnf))
    all_goals (refine Is.ent ?_ ?_; (focus (refine FEnt.ent ?_; (repeat (first | exact FEnt.rfl | refine FEnt.drop ?_)); done)); (exact Is.rfl))
  · have e : nameF c = ⟨#[]⟩ := (nameF_none hc.1).2 (by omega)
    rw [e]
    refine con_of Tryz.tysOk Tryz.func53 rfl rfl ?_
    conv => whnf
    repeat' (first
      | ((with_reducible refine Br.df ?_ ?_); (focus (first | assumption | omega)); conv => whnf)
      | ((with_reducible refine Ar.i64 ?_ ?_); (focus omega); conv => whnf)
      | ((with_reducible refine Cl.new (Tryz.codeNames _) (fun _ _ _ _ => ?_)); conv => whnf))
    all_goals (refine Is.ent ?_ ?_; (focus (refine FEnt.ent ?_; (repeat (first | exact FEnt.rfl | refine FEnt.drop ?_)); done)); (exact Is.rfl))
theorem Tryz.codeMay (c x n : Int) (L : List HP) (hc : 0 ≤ c ∧ c ≤ 255) : Con Tryz.prog 50 [insV c x n] L (Is (.bool (decide (mayI c x n))) L) := by
  by_cases h16 : 16 ≤ c
  · have hn := (nameF_none hc.1).2 h16
    refine con_of Tryz.tysOk Tryz.func50 rfl rfl ?_
    conv => whnf
    repeat' (first
      | (first | ((with_reducible refine Br.tt ?_); conv => whnf) | ((with_reducible refine Br.dt ?_ ?_); (focus (first | assumption | omega)); conv => whnf) | ((with_reducible refine Br.df ?_ ?_); (focus (first | assumption | omega)); conv => whnf))
      | ((with_reducible refine Nc.go' (fun b => ?_)); conv => whnf)
      | (refine Ld.at 0 rfl rfl ?_; conv => whnf)
      | (first | ((with_reducible refine Cl.is (Tryz.codeRegister _ _) ?_); conv => whnf) | ((with_reducible refine Cl.is (Tryz.codeName _ _ hc) ?_); conv => whnf)))
    all_goals (refine Is.ent ?_ ?_; (focus (refine FEnt.ent ?_; (repeat (first | exact FEnt.rfl | refine FEnt.drop ?_)); done)); (exact Is.ff (by omega)))
  · have hn : ¬ nameF c = ⟨#[]⟩ := fun e => h16 ((nameF_none hc.1).1 e)
    by_cases hr : 2 ≤ c ∧ c ≤ 10
    · refine con_of Tryz.tysOk Tryz.func50 rfl rfl ?_
      conv => whnf
      repeat' (first
        | (first | ((with_reducible refine Br.tt ?_); conv => whnf) | ((with_reducible refine Br.ff ?_); conv => whnf) | ((with_reducible refine Br.df ?_ ?_); (focus (first | assumption | omega)); conv => whnf))
        | ((with_reducible refine Nc.go' (fun b => ?_)); conv => whnf)
        | (refine Ld.at 0 rfl rfl ?_; conv => whnf)
        | (first | ((with_reducible refine Cl.is (Con.dt hr (Tryz.codeRegister _ _)) ?_); conv => whnf) | ((with_reducible refine Cl.is (Tryz.codeName _ _ hc) ?_); conv => whnf))
        | ((with_reducible refine Br.ds (fun _ => ?_) (fun _ => ?_) ) <;> (conv => whnf)))
      all_goals (refine Is.ent ?_ ?_; (focus (refine FEnt.ent ?_; (repeat (first | exact FEnt.rfl | refine FEnt.drop ?_)); done)); (first | exact Is.tt (by omega) | exact Is.ff (by omega)))
    · refine con_of Tryz.tysOk Tryz.func50 rfl rfl ?_
      conv => whnf
      repeat' (first
        | (first | ((with_reducible refine Br.tt ?_); conv => whnf) | ((with_reducible refine Br.ff ?_); conv => whnf) | ((with_reducible refine Br.df ?_ ?_); (focus (first | assumption | omega)); conv => whnf))
        | ((with_reducible refine Nc.go' (fun b => ?_)); conv => whnf)
        | (refine Ld.at 0 rfl rfl ?_; conv => whnf)
        | (first | ((with_reducible refine Cl.is (Con.df hr (Tryz.codeRegister _ _)) ?_); conv => whnf) | ((with_reducible refine Cl.is (Tryz.codeName _ _ hc) ?_); conv => whnf))
        | ((with_reducible refine Br.ds (fun _ => ?_) (fun _ => ?_) ) <;> (conv => whnf)))
      all_goals (refine Is.ent ?_ ?_; (focus (refine FEnt.ent ?_; (repeat (first | exact FEnt.rfl | refine FEnt.drop ?_)); done)); (first | exact Is.tt (by omega) | exact Is.ff (by omega) | (refine Is.dec ?_; omega)))
/-- four bytes' instruction -/
abbrev insC (s : ByteArray) : Int := ((sAt s 0).toNat : Int)
abbrev insX (s : ByteArray) : Int := ((sAt s 1).toNat : Int)
abbrev insN (s : ByteArray) : Int := ((sAt s 2).toNat : Int) + 256 * ((sAt s 3).toNat : Int)
abbrev insOk (s : ByteArray) : Prop := mayI (insC s) (insX s) (insN s)
theorem insC_ok (s : ByteArray) : 0 ≤ insC s ∧ insC s ≤ 255 := ⟨Int.natCast_nonneg _, u8_lt _⟩
theorem Tryz.codeGet (s : ByteArray) (L : List HP) (hs : 4 ≤ s.size) (hl : s.size ≤ 1000000000) (h : insOk s) : Con Tryz.prog 27 [.string s] L (Is (.tuple #[insV (insC s) (insX s) (insN s), i64W 0]) L) := by
  refine con_of Tryz.tysOk Tryz.func27 rfl rfl ?_
  conv => whnf
  repeat' (first
    | (first | ((with_reducible refine Br.nt ?_); conv => whnf) | ((with_reducible refine Br.ndf ?_ ?_); (focus (first | assumption | omega)); conv => whnf))
    | ((with_reducible refine Ar.u8b ?_); conv => whnf)
    | ((with_reducible refine Nd.mk ?_ ?_); (focus (first | omega | rfl | assumption | (simp; done))); conv => whnf)
    | ((with_reducible refine Nc.go' (fun b => ?_)); conv => whnf)
    | (first | (refine LdN.at 0 rfl (by first | exact Nat.le_of_ble_eq_true rfl | (simp; done)) ?_; conv => whnf) | (refine LdN.at 2 rfl (by first | exact Nat.le_of_ble_eq_true rfl | (simp; done)) ?_; conv => whnf))
    | (first | (refine St.at 0 rfl (by first | exact Nat.le_of_ble_eq_true rfl | (simp; done)) rfl ?_; conv => whnf) | (refine St.at 2 rfl (by first | exact Nat.le_of_ble_eq_true rfl | (simp; done)) rfl ?_; conv => whnf))
    | (first | ((with_reducible refine Cl.exs (Tryz.rdNew _ _) (fun b1 _ => ?_)); conv => whnf) | ((refine Cl.isAt 0 rfl (Tryz.rdByte _ s 0 _ (by omega) hl) ?_); conv => whnf) | ((refine Cl.isAt 0 rfl (Tryz.rdByte _ s 1 _ (by omega) hl) ?_); conv => whnf) | ((refine Cl.isAt 0 rfl (Tryz.rdTwo _ s 2 _ (by omega) hl) ?_); conv => whnf) | ((refine Cl.isAt 1 rfl (Tryz.rdErr _ _ _ _ _) ?_); conv => whnf) | ((with_reducible refine Cl.is (Con.dt h (Tryz.codeMay (insC s) (insX s) (insN s) _ (insC_ok s))) ?_); conv => whnf))
    | ((rw [u8of_toNat]); conv => whnf))
  all_goals (refine Is.ent ?_ ?_; (focus (refine FEnt.ent ?_; (repeat (first | exact FEnt.rfl | refine FEnt.drop ?_)); done)); (exact Is.rfl))
theorem Tryz.codeGetNo (s : ByteArray) (L : List HP) (hs : 4 ≤ s.size) (hl : s.size ≤ 1000000000) (h : ¬ insOk s) : Con Tryz.prog 27 [.string s] L (Is (.tuple #[insV 0 0 0, i64W 12]) L) := by
  refine con_of Tryz.tysOk Tryz.func27 rfl rfl ?_
  conv => whnf
  repeat' (first
    | (first | ((with_reducible refine Br.nf ?_); conv => whnf) | ((with_reducible refine Br.ndf ?_ ?_); (focus (first | assumption | omega)); conv => whnf))
    | ((with_reducible refine Ar.u8b ?_); conv => whnf)
    | ((with_reducible refine Nd.mk ?_ ?_); (focus (first | omega | rfl | assumption | (simp; done))); conv => whnf)
    | ((with_reducible refine Nc.go' (fun b => ?_)); conv => whnf)
    | (first | (refine LdN.at 0 rfl (by first | exact Nat.le_of_ble_eq_true rfl | (simp; done)) ?_; conv => whnf) | (refine LdN.at 2 rfl (by first | exact Nat.le_of_ble_eq_true rfl | (simp; done)) ?_; conv => whnf))
    | (first | (refine St.at 0 rfl (by first | exact Nat.le_of_ble_eq_true rfl | (simp; done)) rfl ?_; conv => whnf) | (refine St.at 2 rfl (by first | exact Nat.le_of_ble_eq_true rfl | (simp; done)) rfl ?_; conv => whnf))
    | (first | ((with_reducible refine Cl.exs (Tryz.rdNew _ _) (fun b1 _ => ?_)); conv => whnf) | ((refine Cl.isAt 0 rfl (Tryz.rdByte _ s 0 _ (by omega) hl) ?_); conv => whnf) | ((refine Cl.isAt 0 rfl (Tryz.rdByte _ s 1 _ (by omega) hl) ?_); conv => whnf) | ((refine Cl.isAt 0 rfl (Tryz.rdTwo _ s 2 _ (by omega) hl) ?_); conv => whnf) | ((refine Cl.isAt 1 rfl (Tryz.rdErr _ _ _ _ _) ?_); conv => whnf) | ((with_reducible refine Cl.is (Con.df h (Tryz.codeMay (insC s) (insX s) (insN s) _ (insC_ok s))) ?_); conv => whnf))
    | ((rw [u8of_toNat]); conv => whnf))
  all_goals (refine Is.ent ?_ ?_; (focus (refine FEnt.ent ?_; (repeat (first | exact FEnt.rfl | refine FEnt.drop ?_)); done)); (exact Is.rfl))
theorem Tryz.refGet (s : ByteArray) (L : List HP) (hs : 4 ≤ s.size) (hl : s.size ≤ 1000000000) (h : insOk s) : Con Tryz.prog 22 [.string s] L (Is (.tuple #[insV (insC s) (insX s) (insN s), i64W 0]) L) := by
  have h2 := u8_lt (sAt s (Int.toNat 2))
  have h3 := u8_lt (sAt s (Int.toNat 3))
  refine con_of Tryz.tysOk Tryz.func22 rfl rfl ?_
  conv => whnf
  repeat' (first
    | (first | ((with_reducible refine Br.nt ?_); conv => whnf) | ((with_reducible refine Br.df ?_ ?_); (focus (first | assumption | omega)); conv => whnf))
    | (first | ((with_reducible refine Ar.i64b ?_); conv => whnf) | ((with_reducible refine Ar.i64 ?_ ?_); (focus omega); conv => whnf))
    | ((with_reducible refine Nd.mk ?_ ?_); (focus (first | omega | rfl | assumption | (simp; done))); conv => whnf)
    | ((with_reducible refine Nc.go' (fun b => ?_)); conv => whnf)
    | ((with_reducible refine SIx.mk' ?_ ?_); (focus (omega)); conv => whnf)
    | (first | (refine LdN.at 0 rfl (by first | exact Nat.le_of_ble_eq_true rfl | (simp; done)) ?_; conv => whnf) | (refine LdN.at 1 rfl (by first | exact Nat.le_of_ble_eq_true rfl | (simp; done)) ?_; conv => whnf))
    | (first | (refine St.at 0 rfl (by first | exact Nat.le_of_ble_eq_true rfl | (simp; done)) rfl ?_; conv => whnf) | (refine St.at 1 rfl (by first | exact Nat.le_of_ble_eq_true rfl | (simp; done)) rfl ?_; conv => whnf))
    | ((with_reducible refine Dr.by (id := 3) Tryz.tysOk rfl [(0, 0), (1, 0), (2, 0), (3, 0), (4, 0), (5, 0), (6, 0), (7, 0), (8, 0), (9, 0), (10, 0), (11, 0), (12, 0), (13, 0), (14, 2), (15, 3)] ?_ ?_); (focus kernel_rfl); conv => whnf)
    | ((refine Cl.is (Con.dt h (Tryz.refMay (insC s) (insX s) (insN s) _ (insC_ok s))) ?_); conv => whnf))
  all_goals (refine Is.ent ?_ ?_; (focus (refine FEnt.ent ?_; (repeat (first | exact FEnt.rfl | refine FEnt.drop ?_)); done)); (exact Is.rfl))
theorem Tryz.refGetNo (s : ByteArray) (L : List HP) (hs : 4 ≤ s.size) (hl : s.size ≤ 1000000000) (h : ¬ insOk s) : Con Tryz.prog 22 [.string s] L (Is (.tuple #[insV 0 0 0, i64W 12]) L) := by
  have h2 := u8_lt (sAt s (Int.toNat 2))
  have h3 := u8_lt (sAt s (Int.toNat 3))
  refine con_of Tryz.tysOk Tryz.func22 rfl rfl ?_
  conv => whnf
  repeat' (first
    | (first | ((with_reducible refine Br.nf ?_); conv => whnf) | ((with_reducible refine Br.df ?_ ?_); (focus (first | assumption | omega)); conv => whnf))
    | (first | ((with_reducible refine Ar.i64b ?_); conv => whnf) | ((with_reducible refine Ar.i64 ?_ ?_); (focus omega); conv => whnf))
    | ((with_reducible refine Nd.mk ?_ ?_); (focus (first | omega | rfl | assumption | (simp; done))); conv => whnf)
    | ((with_reducible refine Nc.go' (fun b => ?_)); conv => whnf)
    | ((with_reducible refine SIx.mk' ?_ ?_); (focus (omega)); conv => whnf)
    | (first | (refine LdN.at 0 rfl (by first | exact Nat.le_of_ble_eq_true rfl | (simp; done)) ?_; conv => whnf) | (refine LdN.at 1 rfl (by first | exact Nat.le_of_ble_eq_true rfl | (simp; done)) ?_; conv => whnf))
    | (first | (refine St.at 0 rfl (by first | exact Nat.le_of_ble_eq_true rfl | (simp; done)) rfl ?_; conv => whnf) | (refine St.at 1 rfl (by first | exact Nat.le_of_ble_eq_true rfl | (simp; done)) rfl ?_; conv => whnf))
    | ((with_reducible refine Dr.by (id := 3) Tryz.tysOk rfl [(0, 0), (1, 0), (2, 0), (3, 0), (4, 0), (5, 0), (6, 0), (7, 0), (8, 0), (9, 0), (10, 0), (11, 0), (12, 0), (13, 0), (14, 2), (15, 3)] ?_ ?_); (focus kernel_rfl); conv => whnf)
    | ((refine Cl.is (Con.df h (Tryz.refMay (insC s) (insX s) (insN s) _ (insC_ok s))) ?_); conv => whnf))
  all_goals (refine Is.ent ?_ ?_; (focus (refine FEnt.ent ?_; (repeat (first | exact FEnt.rfl | refine FEnt.drop ?_)); done)); (exact Is.rfl))
end Go.Proofs
