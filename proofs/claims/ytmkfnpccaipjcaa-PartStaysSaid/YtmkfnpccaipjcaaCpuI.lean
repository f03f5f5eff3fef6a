/- The processor: whole runs, views made for the laws: contracts. -/
import Derived.Test.YtmkfnpccaipjcaaCpuH
set_option linter.all false
namespace Go.Proofs
open Go.Eng
set_option linter.unusedVariables false
set_option maxRecDepth 100000
set_option maxHeartbeats 8000000
def outE : Enc Otp := ⟨4, fun o => [i64W o.1, i64W o.2.1, i64W o.2.2.1, i64W o.2.2.2], (0, 0, 0, 0), fun _ => rfl, by omega, fun _ => rfl⟩
theorem wrap_I (n : Int) : I64 (IntKind.i64.wrap n) := by
  rw [IntKind.wrap_i64]
  exact ⟨by omega, by omega⟩
theorem madeF_I {c x y : Int} (hx : 0 ≤ x ∧ x ≤ 65535) (hy : 0 ≤ y ∧ y ≤ 65535) : I64 (madeF c x y) := by
  unfold madeF
  repeat' split
  · exact ⟨by omega, by omega⟩
  · exact ⟨by omega, by omega⟩
  · exact wrap_I _
  · exact wrap_I _
  · exact ⟨by omega, by omega⟩
theorem upd_I {r : Nat → Int} {n : Nat} {v : Int} (h : ∀ i, I64 (r i)) (hv : I64 v) : ∀ i, I64 (upd r n v i) := fun i => by
  unfold upd
  split
  · exact hv
  · exact h i
/-- a state that may be -/
structure Mok (s : Mch) : Prop where
  regs : ∀ i, I64 (s.r i)
  pcI : I64 s.pc
  few : s.V.length ≤ 400
theorem memF_len {V : List UInt8} {r : Nat → Int} {c x n : Int} (hk : ¬ brkP V.length c (r n.toNat)) : (memF V r c x n).length = V.length := by
  unfold memF
  split
  · rename_i h
    subst h
    have hk' : 0 ≤ r n.toNat ∧ r n.toNat + 1 ≤ V.length := Classical.not_not.1 fun h => hk ⟨by omega, by omega, h⟩
    rw [lay_len (by simp; omega)]
  · split
    · rename_i h
      subst h
      have hk' : 0 ≤ r n.toNat ∧ r n.toNat + 2 ≤ V.length := Classical.not_not.1 fun h => hk ⟨by omega, by omega, h⟩
      rw [lay_len (by show _ + 2 ≤ _; omega)]
    · rfl
theorem stepF_len (s : Mch) : (stepF s).1.V.length = s.V.length := by
  unfold stepF
  split
  · rfl
  · split
    · rfl
    · split
      · rfl
      · split
        · rfl
        · rename_i hk
          exact memF_len hk
theorem stepF_ok' {s : Mch} (h : Mok s) : Mok (stepF s).1 := by
  refine ⟨?_, ?_, by rw [stepF_len]; exact h.few⟩
  · have hw : ∀ i, I64 (wordR s.r i) := fun i => by have := wordR_ok s.r i; exact ⟨by omega, by omega⟩
    unfold stepF
    split
    · exact h.regs
    · split
      · exact hw
      · split
        · exact hw
        · split
          · exact hw
          · rename_i hi hk
            have hn := Classical.not_not.1 hi
            show ∀ i, I64 (regF s.V (wordR s.r) _ _ _ i)
            unfold regF
            repeat' split
            · exact upd_I hw ⟨by have := hn.2.2.2.2.1; omega, by have := hn.2.2.2.2.2.1; omega⟩
            · exact upd_I hw (madeF_I (wordR_ok s.r _) (wordR_ok s.r _))
            · exact upd_I hw (by have := bAt_lt s.V (wordR s.r (insN (at4 s.V s.pc.toNat)).toNat).toNat; exact ⟨by omega, by omega⟩)
            · exact upd_I hw (by have := bAt_lt s.V (wordR s.r (insN (at4 s.V s.pc.toNat)).toNat).toNat; have := bAt_lt s.V ((wordR s.r (insN (at4 s.V s.pc.toNat)).toNat).toNat + 1); exact ⟨by omega, by omega⟩)
            · exact hw
  · have hp := h.pcI
    have hf := h.few
    unfold stepF
    split
    · exact hp
    · split
      · exact hp
      · split
        · exact hp
        · split
          · exact hp
          · rename_i ht hi hk
            have hn := Classical.not_not.1 hi
            have ht := Classical.not_not.1 ht
            show I64 (pcF s.pc (wordR s.r) _ _ _)
            unfold pcF
            repeat' split
            · exact hp
            · exact ⟨by have := hn.2.2.2.2.1; omega, by have := hn.2.2.2.2.2.1; omega⟩
            · exact ⟨by omega, by omega⟩
/-- steps, till something is asked for: what they did, and what is left -/
def runL : Nat → Mch → List Otp
  | 0, _ => []
  | k + 1, q => if q.m ≠ 0 then [] else (stepF q).2 :: (if (stepF q).2.1 = 2 then [] else runL k (stepF q).1)
def runS : Nat → Mch → Mch
  | 0, q => q
  | k + 1, q => if q.m ≠ 0 then q else if (stepF q).2.1 = 2 then (stepF q).1 else runS k (stepF q).1
theorem runS_ok : ∀ (k : Nat) {s : Mch}, Mok s → Mok (runS k s)
  | 0, s, h => h
  | k + 1, s, h => by
    unfold runS
    split
    · exact h
    · split
      · exact stepF_ok' h
      · exact runS_ok k (stepF_ok' h)
theorem runS_len : ∀ (k : Nat) (s : Mch), (runS k s).V.length = s.V.length
  | 0, s => rfl
  | k + 1, s => by
    unfold runS
    split
    · rfl
    · split
      · exact stepF_len s
      · rw [runS_len k]; exact stepF_len s
theorem runL_len : ∀ (k : Nat) (s : Mch), (runL k s).length ≤ k
  | 0, s => Nat.le_refl _
  | k + 1, s => by
    have := runL_len k (stepF s).1
    unfold runL
    repeat' split
    all_goals simp
    omega
theorem run_still {k : Nat} {q : Mch} (h : q.m ≠ 0) : runL k q = [] ∧ runS k q = q := by
  cases k with
  | zero => exact ⟨rfl, rfl⟩
  | succ k => exact ⟨by unfold runL; rw [if_pos h], by unfold runS; rw [if_pos h]⟩
theorem run_call {k : Nat} {q : Mch} (h : q.m = 0) (h2 : (stepF q).2.1 = 2) (hk : 0 < k) : runL k q = [(stepF q).2] ∧ runS k q = (stepF q).1 := by
  cases k with
  | zero => omega
  | succ k => exact ⟨by unfold runL; rw [if_neg (by simpa using h), if_pos h2], by unfold runS; rw [if_neg (by simpa using h), if_pos h2]⟩
theorem run_on {k : Nat} {q : Mch} (h : q.m = 0) (h2 : ¬ (stepF q).2.1 = 2) (hk : 0 < k) : runL k q = (stepF q).2 :: runL (k - 1) (stepF q).1 ∧ runS k q = runS (k - 1) (stepF q).1 := by
  cases k with
  | zero => omega
  | succ k => exact ⟨by rw [Nat.add_sub_cancel]; conv => lhs; unfold runL; rw [if_neg (by simpa using h), if_neg h2], by rw [Nat.add_sub_cancel]; conv => lhs; unfold runS; rw [if_neg (by simpa using h), if_neg h2]⟩
theorem Try.cpuStepS (b : Nat) (pre post : List UInt8) (base size : Int) (s : Mch) (L : List HP) (hb : base = pre.length) (hs : size = s.V.length) (hx : (pre ++ s.V ++ post).length ≤ 16384) (hr : Mok s) :
    Con Try.prog 35 [viewV b base size, stO s] (Try.memH b (pre ++ s.V ++ post) :: L) (Is (.tuple #[stO (stepF s).1, outV (stepF s).2]) (Try.memH b (pre ++ (stepF s).1.V ++ post) :: L)) :=
  Try.cpuStep b pre s.V post base size s.pc s.m s.r L hb hs hx hr.regs
theorem all_take {V : List UInt8} : ((V.take (0 + V.length)).drop 0) = V := by rw [Nat.zero_add, List.take_length, List.drop_zero]
theorem Try.cpuText (b : Nat) (pre V post : List UInt8) (base size : Int) (L : List HP) (hb : base = pre.length) (hs : size = V.length) (hx : (pre ++ V ++ post).length ≤ 16384) :
    Con Try.prog 38 [viewV b base size] (Try.memH b (pre ++ V ++ post) :: L) (Is (.string ⟨V.toArray⟩) (Try.memH b (pre ++ V ++ post) :: L)) := by
  have hxl : (pre ++ V ++ post).length = pre.length + V.length + post.length := by simp only [List.length_append]
  have hv := Try.viewText b pre V post base size 0 (max size 0) 0 V.length
  rw [all_take] at hv
  generalize pre ++ V ++ post = X at *
  refine con_of Try.tysOk Try.func38 rfl rfl ?_
  conv => whnf
  repeat' (first
    | ((with_reducible refine Nd.mk ?_ ?_); (focus (first | omega | rfl | assumption | (simp; done))); conv => whnf)
    | ((with_reducible refine Nc.go' (fun _ => ?_)); conv => whnf)
    | (refine Ld.at 0 rfl rfl ?_; conv => whnf)
    | (refine LdN.at 0 rfl (by first | exact Nat.le_of_ble_eq_true rfl | (simp; done)) ?_; conv => whnf)
    | ((refine Cl.isAt 1 rfl (hv _ hb hs hx rfl (by omega) (by omega)) ?_); conv => whnf))
  all_goals (refine Is.ent ?_ ?_; (focus (refine FEnt.ent ?_; (repeat (first | exact FEnt.rfl | (refine FEnt.at 1 rfl ?_; (try simp only [List.eraseIdx_cons_zero, List.eraseIdx_cons_succ, List.eraseIdx_zero, List.tail_cons])) | refine FEnt.drop ?_)); done)); (exact Is.rfl))
theorem Try.refTextAll (a : Option Addr) (c : Nat) (at_ : Int) (V : List UInt8) (L : List HP) (hm : V.length ≤ 1000000) (hk : at_ = 0) (hr : Rd intE L a (ints V)) :
    Con Try.prog 34 [.slice a (ints V).length c, i64V at_, i64V (ints V).length] L (Is (.string ⟨V.toArray⟩) L) := by
  have := Try.refTextB a c 0 V.length at_ (ints V).length V L hm hk (by rw [ints_len]) (by omega) hr
  rwa [all_take] at this
theorem Try.cpuGive (pc m x n : Int) (r : Nat → Int) (L : List HP) (hn : I64 n) (hx : 0 ≤ x ∧ x < 8) : Con Try.prog 36 [stV pc r m, i64W x, i64W n] L (Is (stV pc (upd r x.toNat (n % 65536)) m) L) := by
  refine con_of Try.tysOk Try.func36 rfl rfl ?_
  conv => whnf
  repeat' (first
    | (first | ((with_reducible refine Br.tt ?_); conv => whnf) | ((with_reducible refine Br.dt ?_ ?_); (focus (first | assumption | omega)); conv => whnf))
    | ((with_reducible refine Nd.mk ?_ ?_); (focus (first | omega | rfl | assumption | (simp; done))); conv => whnf)
    | ((with_reducible refine Nc.go' (fun _ => ?_)); conv => whnf)
    | ((with_reducible refine Ix.arr ?_ ?_); (focus (omega)); conv => whnf)
    | (first | (refine LdN.at 0 rfl (by first | exact Nat.le_of_ble_eq_true rfl | (simp; done)) ?_; conv => whnf) | (refine LdN.at 1 rfl (by first | exact Nat.le_of_ble_eq_true rfl | (simp; done)) ?_; conv => whnf))
    | (first | (refine St.reg 1 rfl ?_ ?_; (focus (omega)); conv => whnf) | (refine St.at 0 rfl (by first | exact Nat.le_of_ble_eq_true rfl | (simp; done)) rfl ?_; conv => whnf))
    | ((with_reducible refine Cl.is (Try.cpuWord _ _ hn) ?_); conv => whnf))
  all_goals (refine Is.ent ?_ ?_; (focus (refine FEnt.ent ?_; (repeat (first | exact FEnt.rfl | refine FEnt.drop ?_)); done)); (exact Is.rfl))
theorem Try.cpuGiveNo (pc m x n : Int) (r : Nat → Int) (L : List HP) (hx : ¬ (0 ≤ x ∧ x < 8)) : Con Try.prog 36 [stV pc r m, i64W x, i64W n] L (Is (stV pc r m) L) := by
  refine con_of Try.tysOk Try.func36 rfl rfl ?_
  conv => whnf
  repeat' (first
    | (first | ((with_reducible refine Br.tt ?_); conv => whnf) | ((with_reducible refine Br.ff ?_); conv => whnf) | ((with_reducible refine Br.df ?_ ?_); (focus (first | assumption | omega)); conv => whnf))
    | ((with_reducible refine Nd.mk ?_ ?_); (focus (first | omega | rfl | assumption | (simp; done))); conv => whnf)
    | ((with_reducible refine Nc.go' (fun _ => ?_)); conv => whnf)
    | (first | (refine LdN.at 0 rfl (by first | exact Nat.le_of_ble_eq_true rfl | (simp; done)) ?_; conv => whnf) | (refine LdN.at 1 rfl (by first | exact Nat.le_of_ble_eq_true rfl | (simp; done)) ?_; conv => whnf))
    | (refine St.at 0 rfl (by first | exact Nat.le_of_ble_eq_true rfl | (simp; done)) rfl ?_; conv => whnf)
    | ((with_reducible refine Br.ds (fun _ => ?_) (fun _ => ?_) ) <;> (conv => whnf)))
  all_goals (refine Is.ent ?_ ?_; (focus (refine FEnt.ent ?_; (repeat (first | exact FEnt.rfl | refine FEnt.drop ?_)); done)); (exact Is.rfl))
theorem Try.cpuWake (pc m : Int) (r : Nat → Int) (L : List HP) : Con Try.prog 37 [stV pc r m] L (Is (stV pc r (if m = 1 then 0 else m)) L) := by
  by_cases h : m = 1
  · rw [if_pos h]
    subst h
    refine con_of Try.tysOk Try.func37 rfl rfl ?_
    conv => whnf
    repeat' (first
      | ((with_reducible refine Br.dt ?_ ?_); (focus (first | assumption | omega)); conv => whnf)
      | ((with_reducible refine Nd.mk ?_ ?_); (focus (first | omega | rfl | assumption | (simp; done))); conv => whnf)
      | ((with_reducible refine Nc.go' (fun _ => ?_)); conv => whnf)
      | (refine Ld.at 1 rfl rfl ?_; conv => whnf)
      | (first | (refine LdN.at 0 rfl (by first | exact Nat.le_of_ble_eq_true rfl | (simp; done)) ?_; conv => whnf) | (refine LdN.at 1 rfl (by first | exact Nat.le_of_ble_eq_true rfl | (simp; done)) ?_; conv => whnf))
      | (first | (refine St.at 0 rfl (by first | exact Nat.le_of_ble_eq_true rfl | (simp; done)) rfl ?_; conv => whnf) | (refine St.at 1 rfl (by first | exact Nat.le_of_ble_eq_true rfl | (simp; done)) rfl ?_; conv => whnf)))
    all_goals (refine Is.ent ?_ ?_; (focus (refine FEnt.ent ?_; (repeat (first | exact FEnt.rfl | refine FEnt.drop ?_)); done)); (exact Is.rfl))
  · rw [if_neg h]
    refine con_of Try.tysOk Try.func37 rfl rfl ?_
    conv => whnf
    repeat' (first
      | ((with_reducible refine Br.df ?_ ?_); (focus (first | assumption | omega)); conv => whnf)
      | ((with_reducible refine Nd.mk ?_ ?_); (focus (first | omega | rfl | assumption | (simp; done))); conv => whnf)
      | ((with_reducible refine Nc.go' (fun _ => ?_)); conv => whnf)
      | (refine Ld.at 1 rfl rfl ?_; conv => whnf)
      | (first | (refine LdN.at 0 rfl (by first | exact Nat.le_of_ble_eq_true rfl | (simp; done)) ?_; conv => whnf) | (refine LdN.at 1 rfl (by first | exact Nat.le_of_ble_eq_true rfl | (simp; done)) ?_; conv => whnf))
      | (refine St.at 0 rfl (by first | exact Nat.le_of_ble_eq_true rfl | (simp; done)) rfl ?_; conv => whnf))
    all_goals (refine Is.ent ?_ ?_; (focus (refine FEnt.ent ?_; (repeat (first | exact FEnt.rfl | refine FEnt.drop ?_)); done)); (exact Is.rfl))
end Go.Proofs
