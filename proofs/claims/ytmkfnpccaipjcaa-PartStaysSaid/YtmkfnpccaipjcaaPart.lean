/- The partition: contracts. -/
import Derived.Test.YtmkfnpccaipjcaaCpuL
set_option linter.all false
namespace Go.Proofs
open Go.Eng
set_option linter.unusedVariables false
set_option maxRecDepth 100000
set_option maxHeartbeats 2000000
/-- a mark -/
abbrev Mk6 := Int × Int × Int × Int × Int × ByteArray
def markE : Enc Mk6 := ⟨6, fun m => [i64W m.1, u8W m.2.1, i64W m.2.2.1, i64W m.2.2.2.1, i64W m.2.2.2.2.1, .string m.2.2.2.2.2], (0, 0, 0, 0, 0, ByteArray.empty), fun _ => rfl, by omega, fun _ => rfl⟩
/-- what may be told: tick, frame, done, drops, bits -/
abbrev Fct := Int × Int × Int × Int × Int
abbrev fctV (f : Fct) : Value := .agg #[i64W f.1, i64W f.2.1, i64W f.2.2.1, i64W f.2.2.2.1, i64W f.2.2.2.2]
abbrev fctI (f : Fct) : Prop := I64 f.1 ∧ I64 f.2.1 ∧ I64 f.2.2.1 ∧ I64 f.2.2.2.1 ∧ I64 f.2.2.2.2
def resF (n : Int) (f : Fct) : Int := if n = 1 then f.1 % 65536 else if n = 2 then f.2.2.1 % 65536 else if n = 3 then f.2.2.2.1 % 65536 else if n = 4 then f.2.2.2.2 % 65536 else if n = 5 then f.2.1 % 65536 else 65535
theorem resF_bd (n : Int) (f : Fct) : 0 ≤ resF n f ∧ resF n f ≤ 65535 := by
  unfold resF
  repeat' split
  all_goals omega
theorem resF_else {n : Int} {f : Fct} (h1 : ¬ n = 1) (h2 : ¬ n = 2) (h3 : ¬ n = 3) (h4 : ¬ n = 4) (h5 : ¬ n = 5) : resF n f = 65535 := by
  unfold resF
  rw [if_neg h1, if_neg h2, if_neg h3, if_neg h4, if_neg h5]
theorem Try.partResult (n : Int) (f : Fct) (L : List HP) (hf : fctI f) : Con Try.prog 8 [i64W n, fctV f] L (Is (i64W (resF n f)) L) := by
  obtain ⟨f1, f2, f3, f4, f5⟩ := hf
  by_cases h1 : n = 1
  · subst h1
    refine con_of Try.tysOk Try.func8 rfl rfl ?_
    conv => whnf
    repeat' (first
      | ((with_reducible refine Br.dt ?_ ?_); (focus (first | assumption | omega)); conv => whnf)
      | ((with_reducible refine Bt.low16 ?_ ?_); (focus (first | assumption | omega)); conv => whnf)
      | ((with_reducible refine Nc.go' (fun _ => ?_)); conv => whnf)
      | (refine Ld.at 0 rfl rfl ?_; conv => whnf))
    all_goals (refine Is.ent ?_ ?_; (focus (refine FEnt.ent ?_; (repeat (first | exact FEnt.rfl | refine FEnt.drop ?_)); done)); (exact Is.rfl))
  · by_cases h2 : n = 2
    · subst h2
      refine con_of Try.tysOk Try.func8 rfl rfl ?_
      conv => whnf
      repeat' (first
        | (first | ((with_reducible refine Br.dt ?_ ?_); (focus (first | assumption | omega)); conv => whnf) | ((with_reducible refine Br.df ?_ ?_); (focus (first | assumption | omega)); conv => whnf))
        | ((with_reducible refine Bt.low16 ?_ ?_); (focus (first | assumption | omega)); conv => whnf)
        | ((with_reducible refine Nc.go' (fun _ => ?_)); conv => whnf)
        | (refine Ld.at 0 rfl rfl ?_; conv => whnf))
      all_goals (refine Is.ent ?_ ?_; (focus (refine FEnt.ent ?_; (repeat (first | exact FEnt.rfl | refine FEnt.drop ?_)); done)); (exact Is.rfl))
    · by_cases h3 : n = 3
      · subst h3
        refine con_of Try.tysOk Try.func8 rfl rfl ?_
        conv => whnf
        repeat' (first
          | (first | ((with_reducible refine Br.dt ?_ ?_); (focus (first | assumption | omega)); conv => whnf) | ((with_reducible refine Br.df ?_ ?_); (focus (first | assumption | omega)); conv => whnf))
          | ((with_reducible refine Bt.low16 ?_ ?_); (focus (first | assumption | omega)); conv => whnf)
          | ((with_reducible refine Nc.go' (fun _ => ?_)); conv => whnf)
          | (refine Ld.at 0 rfl rfl ?_; conv => whnf))
        all_goals (refine Is.ent ?_ ?_; (focus (refine FEnt.ent ?_; (repeat (first | exact FEnt.rfl | refine FEnt.drop ?_)); done)); (exact Is.rfl))
      · by_cases h4 : n = 4
        · subst h4
          refine con_of Try.tysOk Try.func8 rfl rfl ?_
          conv => whnf
          repeat' (first
            | (first | ((with_reducible refine Br.dt ?_ ?_); (focus (first | assumption | omega)); conv => whnf) | ((with_reducible refine Br.df ?_ ?_); (focus (first | assumption | omega)); conv => whnf))
            | ((with_reducible refine Bt.low16 ?_ ?_); (focus (first | assumption | omega)); conv => whnf)
            | ((with_reducible refine Nc.go' (fun _ => ?_)); conv => whnf)
            | (refine Ld.at 0 rfl rfl ?_; conv => whnf))
          all_goals (refine Is.ent ?_ ?_; (focus (refine FEnt.ent ?_; (repeat (first | exact FEnt.rfl | refine FEnt.drop ?_)); done)); (exact Is.rfl))
        · by_cases h5 : n = 5
          · subst h5
            refine con_of Try.tysOk Try.func8 rfl rfl ?_
            conv => whnf
            repeat' (first
              | (first | ((with_reducible refine Br.dt ?_ ?_); (focus (first | assumption | omega)); conv => whnf) | ((with_reducible refine Br.df ?_ ?_); (focus (first | assumption | omega)); conv => whnf))
              | ((with_reducible refine Bt.low16 ?_ ?_); (focus (first | assumption | omega)); conv => whnf)
              | ((with_reducible refine Nc.go' (fun _ => ?_)); conv => whnf)
              | (refine Ld.at 0 rfl rfl ?_; conv => whnf))
            all_goals (refine Is.ent ?_ ?_; (focus (refine FEnt.ent ?_; (repeat (first | exact FEnt.rfl | refine FEnt.drop ?_)); done)); (exact Is.rfl))
          · rw [resF_else h1 h2 h3 h4 h5]
            refine con_of Try.tysOk Try.func8 rfl rfl ?_
            conv => whnf
            repeat' (first
              | ((with_reducible refine Br.df ?_ ?_); (focus (first | assumption | omega)); conv => whnf)
              | ((with_reducible refine Nc.go' (fun _ => ?_)); conv => whnf))
            all_goals (refine Is.ent ?_ ?_; (focus (refine FEnt.ent ?_; (repeat (first | exact FEnt.rfl | refine FEnt.drop ?_)); done)); (exact Is.rfl))
theorem low_high (x : Int) : x % 256 + 256 * (x / 256 % 256) = x % 65536 := by omega
theorem Try.refResult (n : Int) (f : Fct) (L : List HP) (hf : fctI f) : Con Try.prog 9 [i64W n, fctV f] L (Is (i64W (resF n f)) L) := by
  obtain ⟨f1, f2, f3, f4, f5⟩ := hf
  by_cases h : n = 1 ∨ n = 2 ∨ n = 3 ∨ n = 4 ∨ n = 5
  · rcases h with rfl | rfl | rfl | rfl | rfl
    all_goals
      refine con_of Try.tysOk Try.func9 rfl rfl ?_
      conv => whnf
      repeat' (first
        | (first | ((with_reducible refine Br.ff ?_); conv => whnf) | ((with_reducible refine Br.df ?_ ?_); (focus (first | assumption | omega)); conv => whnf))
        | ((with_reducible refine Ar.i64 ?_ ?_); (focus omega); conv => whnf)
        | ((with_reducible refine Nd.mk ?_ ?_); (focus (first | omega | rfl | assumption | (simp; done))); conv => whnf)
        | ((with_reducible refine Nc.go' (fun _ => ?_)); conv => whnf)
        | ((with_reducible refine Ix.arr ?_ ?_); (focus (omega)); conv => whnf)
        | (refine Ld.at 0 rfl rfl ?_; conv => whnf)
        | (refine St.at 0 rfl (by first | exact Nat.le_of_ble_eq_true rfl | (simp; done)) rfl ?_; conv => whnf)
        | ((with_reducible refine Dr.by (id := 4) Try.tysOk rfl [(0, 0), (1, 0), (4, 0), (5, 0), (2, 1), (3, 1), (6, 1), (7, 1), (8, 0), (9, 0), (10, 0)] ?_ ?_); (focus kernel_rfl); conv => whnf)
        | (first | ((with_reducible refine CD.is (fun M => Try.refLow _ (by assumption) _) ?_); conv => whnf) | ((with_reducible refine CD.is (fun M => Try.refHigh _ (by assumption) _) ?_); conv => whnf)))
      all_goals exact Is.ent (by (refine FEnt.ent ?_; (repeat (first | exact FEnt.rfl | refine FEnt.drop ?_)); done)) (Is.int (low_high _))
  · rw [resF_else (by omega) (by omega) (by omega) (by omega) (by omega)]
    refine con_of Try.tysOk Try.func9 rfl rfl ?_
    conv => whnf
    repeat' (first
      | (first | ((with_reducible refine Br.tt ?_); conv => whnf) | ((with_reducible refine Br.ff ?_); conv => whnf) | ((with_reducible refine Br.dt ?_ ?_); (focus (first | assumption | omega)); conv => whnf))
      | ((with_reducible refine Nd.mk ?_ ?_); (focus (first | omega | rfl | assumption | (simp; done))); conv => whnf)
      | ((with_reducible refine Nc.go' (fun _ => ?_)); conv => whnf)
      | (refine Ld.at 0 rfl rfl ?_; conv => whnf)
      | (refine St.at 0 rfl (by first | exact Nat.le_of_ble_eq_true rfl | (simp; done)) rfl ?_; conv => whnf)
      | ((with_reducible refine Br.ds (fun _ => ?_) (fun _ => ?_) ) <;> (conv => whnf)))
    all_goals (refine Is.ent ?_ ?_; (focus (refine FEnt.ent ?_; (repeat (first | exact FEnt.rfl | refine FEnt.drop ?_)); done)); (exact Is.rfl))
theorem Try.lawFacts (f : Fct) (L : List HP) : Con Try.prog 10 [fctV f] L (Is (fctV f) L) := by
  refine con_of Try.tysOk Try.func10 rfl rfl ?_
  conv => whnf
  repeat' (first
    | ((with_reducible refine Nd.mk ?_ ?_); (focus (first | omega | rfl | assumption | (simp; done))); conv => whnf)
    | ((with_reducible refine Nc.go' (fun _ => ?_)); conv => whnf)
    | (refine Ld.at 1 rfl rfl ?_; conv => whnf)
    | (refine LdN.at 0 rfl (by first | exact Nat.le_of_ble_eq_true rfl | (simp; done)) ?_; conv => whnf)
    | (refine St.at 0 rfl (by first | exact Nat.le_of_ble_eq_true rfl | (simp; done)) rfl ?_; conv => whnf))
  all_goals (refine Is.ent ?_ ?_; (focus (refine FEnt.ent ?_; (repeat (first | exact FEnt.rfl | refine FEnt.drop ?_)); done)); (exact Is.rfl))
theorem Try.refSameM (a a' : Option Addr) (c c' : Nat) (xs : List Mk6) (L : List HP) (hb : xs.length ≤ 1000) (hr : Rd markE L a xs) (hr' : Rd markE L a' xs) :
    Con Try.prog 24 [.slice a xs.length c, .slice a' xs.length c'] L (Is (.bool true) L) := by
  refine con_of Try.tysOk Try.func24 rfl rfl ?_
  conv => whnf
  repeat' ((with_reducible refine Br.ndf ?_ ?_); (focus (first | assumption | omega)); conv => whnf)
  conv => whnf
  refine Lp.by Try.tysOk [5] (fun (k : Nat) => [.int .i64 k]) (fun k => L) (fun k => k ≤ xs.length) (fun k => xs.length - k) (0) (by kernel_rfl) (by (exact Ent.rfl)) (by omega) ?_
  rintro k h1
  conv => whnf
  repeat (intro _; conv => whnf)
  by_cases hk : k < xs.length
  · conv => whnf
    repeat' (first
      | (first | ((with_reducible refine Br.ndf (And.intro ?_ ?_) ?_); (focus ((repeat' (with_reducible apply And.intro)) <;> (first | (with_reducible rfl) | (exact trivial)))); (focus ((repeat' (with_reducible apply And.intro)) <;> (first | (with_reducible rfl) | (exact trivial)))); conv => whnf) | ((with_reducible refine Br.dt ?_ ?_); (focus (first | assumption | omega)); conv => whnf))
      | ((with_reducible refine Ar.i64 ?_ ?_); (focus omega); conv => whnf)
      | ((with_reducible refine Nd.mk ?_ ?_); (focus (first | omega | rfl | assumption | (simp; done))); conv => whnf)
      | ((with_reducible refine Ix.ad ?_ ?_ ?_); (focus (exact Rd.ad (by assumption))); (focus (omega)); conv => whnf)
      | ((with_reducible apply LdN.rdk); (focus ((repeat (assumption)); done)); (focus rfl); (focus rfl); (focus (omega)); conv => whnf)
      | ((with_reducible refine Dr.by (id := 6) Try.tysOk rfl [(0, 0), (1, 0), (2, 0), (4, 0), (5, 0), (6, 0), (3, 1), (7, 1), (8, 0)] ?_ ?_); (focus kernel_rfl); conv => whnf))
    refine ⟨k + 1, by kernel_rfl, by (exact Ent.rfl), by omega, by omega⟩
  · conv => whnf
    repeat' ((with_reducible refine Br.df ?_ ?_); (focus (first | assumption | omega)); conv => whnf)
    all_goals (refine Is.ent ?_ ?_; (focus (exact Ent.rfl)); (exact Is.rfl))
/-- a partition -/
abbrev parC (b : Nat) (base size owner : Int) (q : Mch) : List Value := pV b :: i64W base :: i64W size :: i64W owner :: stC q.pc q.r q.m
/-- its window begins -/
def opnF (q : Mch) : Mch := ⟨q.V, q.pc, q.r, if q.m = 1 then 0 else q.m⟩
def opnL (q : Mch) (tick bits : Int) : List Mk6 := if bits = 0 then [(tick, 1, 0, 0, 0, ⟨q.V.toArray⟩)] else [(tick, 1, 0, 0, 0, ⟨q.V.toArray⟩), (tick, 2, bits, 0, 0, ⟨#[]⟩)]
/-- one step -/
def pstF (q : Mch) (f : Fct) : Mch := if (stepF q).2.1 = 2 then ⟨(stepF q).1.V, (stepF q).1.pc, upd (stepF q).1.r (stepF q).2.2.2.1.toNat (resF (stepF q).2.2.1 f), (stepF q).1.m⟩ else (stepF q).1
def pstL (q : Mch) (f : Fct) : List Mk6 := if (stepF q).2.1 = 2 then [(f.1, 3, (stepF q).2.2.1, resF (stepF q).2.2.1 f, 0, ⟨#[]⟩)] else if (stepF q).2.1 = 4 ∨ (stepF q).2.1 = 5 then [(f.1, 4, (stepF q).2.2.2.2, 0, 0, ⟨#[]⟩)] else []
def pstB (q : Mch) : Bool := decide ((stepF q).2.1 = 2 ∧ (stepF q).2.2.1 = 4)
theorem step_call {q : Mch} (h : (stepF q).2.1 = 2) : 0 ≤ (stepF q).2.2.2.1 ∧ (stepF q).2.2.2.1 < 8 := by
  revert h
  unfold stepF
  split
  · intro h; exact (by decide : ¬ (0 : Int) = 2) h |>.elim
  · split
    · intro h; exact (by decide : ¬ (5 : Int) = 2) h |>.elim
    · split
      · intro h; exact (by decide : ¬ (5 : Int) = 2) h |>.elim
      · split
        · intro h; exact (by decide : ¬ (5 : Int) = 2) h |>.elim
        · rename_i hi hk
          have hm := Classical.not_not.1 hi
          intro _
          show 0 ≤ (outF _ _ _).2.2.1 ∧ (outF _ _ _).2.2.1 < 8
          unfold outF
          repeat' split
          all_goals first | exact ⟨by decide, by decide⟩ | exact ⟨hm.2.2.1, by show insX (at4 q.V q.pc.toNat) < 8; have := hm.2.2.2.1; omega⟩
theorem step_what (q : Mch) : (stepF q).2.1 = 0 ∨ (stepF q).2.1 = 1 ∨ (stepF q).2.1 = 2 ∨ (stepF q).2.1 = 3 ∨ (stepF q).2.1 = 4 ∨ (stepF q).2.1 = 5 := by
  unfold stepF
  repeat' split
  · exact .inl rfl
  · exact .inr (.inr (.inr (.inr (.inr rfl))))
  · exact .inr (.inr (.inr (.inr (.inr rfl))))
  · exact .inr (.inr (.inr (.inr (.inr rfl))))
  · show (outF _ _ _).1 = 0 ∨ _
    unfold outF
    repeat' split
    · exact .inr (.inr (.inr (.inr (.inl rfl))))
    · exact .inr (.inr (.inr (.inl rfl)))
    · exact .inr (.inr (.inl rfl))
    · exact .inr (.inl rfl)
theorem opn_ok {q : Mch} (h : Mok q) : Mok (opnF q) := ⟨h.regs, h.pcI, h.few⟩
theorem pst_ok {q : Mch} {f : Fct} (h : Mok q) : Mok (pstF q f) := by
  unfold pstF
  split
  · have hs := stepF_ok' h
    exact ⟨upd_I hs.regs (by have := resF_bd (stepF q).2.2.1 f; exact ⟨by omega, by omega⟩), hs.pcI, hs.few⟩
  · exact stepF_ok' h
theorem pst_len (q : Mch) (f : Fct) : (pstF q f).V.length = q.V.length := by
  unfold pstF
  split
  · exact stepF_len q
  · exact stepF_len q
end Go.Proofs
