/- The partition: contracts. -/
import Derived.Test.YtdjpcfaidgofoaaGreatCpuH
import Derived.Test.YtdjpcfaidgofoaaGreatEngMore
import Derived.Test.YtdjpcfaidgofoaaGreatRefMem
import Derived.Test.YtdjpcfaidgofoaaGreatSpanG
set_option linter.all false
namespace Go.Proofs
open Go.Eng
set_option linter.unusedVariables false
set_option maxRecDepth 100000
set_option maxHeartbeats 8000000
def outE : Enc Otp := ⟨4, fun o => [i64W o.1, i64W o.2.1, i64W o.2.2.1, i64W o.2.2.2], (0, 0, 0, 0), fun _ => rfl, by omega, fun _ => rfl⟩
theorem wrap_I (n : Int) : I64 (IntKind.i64.wrap n) := by
  rw [IntKind.wrap_i64]
  exact ⟨by omega, by omega⟩
theorem madeF_I {c x y : Int} (hx : 0 ≤ x ∧ x ≤ 65535) (hy : 0 ≤ y ∧ y ≤ 65535) : I64 (madeF c x y) := by
  unfold madeF
  repeat' split
  · exact ⟨by omega, by omega⟩
  · exact ⟨by omega, by omega⟩
  · exact wrap_I _
  · exact wrap_I _
  · exact ⟨by omega, by omega⟩
theorem upd_I {r : Nat → Int} {n : Nat} {v : Int} (h : ∀ i, I64 (r i)) (hv : I64 v) : ∀ i, I64 (upd r n v i) := fun i => by
  unfold upd
  split
  · exact hv
  · exact h i
/-- a state that may be -/
structure Mok (s : Mch) : Prop where
  regs : ∀ i, I64 (s.r i)
  pcI : I64 s.pc
  few : s.V.length ≤ 400
theorem memF_len {V : List UInt8} {r : Nat → Int} {c x n : Int} (hk : ¬ brkP V.length c (r n.toNat)) : (memF V r c x n).length = V.length := by
  unfold memF
  split
  · rename_i h
    subst h
    have hk' : 0 ≤ r n.toNat ∧ r n.toNat + 1 ≤ V.length := Classical.not_not.1 fun h => hk ⟨by omega, by omega, h⟩
    rw [lay_len (by simp; omega)]
  · split
    · rename_i h
      subst h
      have hk' : 0 ≤ r n.toNat ∧ r n.toNat + 2 ≤ V.length := Classical.not_not.1 fun h => hk ⟨by omega, by omega, h⟩
      rw [lay_len (by show _ + 2 ≤ _; omega)]
    · rfl
theorem stepF_len (s : Mch) : (stepF s).1.V.length = s.V.length := by
  unfold stepF
  split
  · rfl
  · split
    · rfl
    · split
      · rfl
      · split
        · rfl
        · rename_i hk
          exact memF_len hk
theorem stepF_ok' {s : Mch} (h : Mok s) : Mok (stepF s).1 := by
  refine ⟨?_, ?_, by rw [stepF_len]; exact h.few⟩
  · have hw : ∀ i, I64 (wordR s.r i) := fun i => by have := wordR_ok s.r i; exact ⟨by omega, by omega⟩
    unfold stepF
    split
    · exact h.regs
    · split
      · exact hw
      · split
        · exact hw
        · split
          · exact hw
          · rename_i hi hk
            have hn := Classical.not_not.1 hi
            show ∀ i, I64 (regF s.V (wordR s.r) _ _ _ i)
            unfold regF
            repeat' split
            · exact upd_I hw ⟨by have := hn.2.2.2.2.1; omega, by have := hn.2.2.2.2.2.1; omega⟩
            · exact upd_I hw (madeF_I (wordR_ok s.r _) (wordR_ok s.r _))
            · exact upd_I hw (by have := bAt_lt s.V (wordR s.r (insN (at4 s.V s.pc.toNat)).toNat).toNat; exact ⟨by omega, by omega⟩)
            · exact upd_I hw (by have := bAt_lt s.V (wordR s.r (insN (at4 s.V s.pc.toNat)).toNat).toNat; have := bAt_lt s.V ((wordR s.r (insN (at4 s.V s.pc.toNat)).toNat).toNat + 1); exact ⟨by omega, by omega⟩)
            · exact hw
  · have hp := h.pcI
    have hf := h.few
    unfold stepF
    split
    · exact hp
    · split
      · exact hp
      · split
        · exact hp
        · split
          · exact hp
          · rename_i ht hi hk
            have hn := Classical.not_not.1 hi
            have ht := Classical.not_not.1 ht
            show I64 (pcF s.pc (wordR s.r) _ _ _)
            unfold pcF
            repeat' split
            · exact hp
            · exact ⟨by have := hn.2.2.2.2.1; omega, by have := hn.2.2.2.2.2.1; omega⟩
            · exact ⟨by omega, by omega⟩
/-- steps, till something is asked for: what they did, and what is left -/
def runL : Nat → Mch → List Otp
  | 0, _ => []
  | k + 1, q => if q.m ≠ 0 then [] else (stepF q).2 :: (if (stepF q).2.1 = 2 then [] else runL k (stepF q).1)
def runS : Nat → Mch → Mch
  | 0, q => q
  | k + 1, q => if q.m ≠ 0 then q else if (stepF q).2.1 = 2 then (stepF q).1 else runS k (stepF q).1
theorem runS_ok : ∀ (k : Nat) {s : Mch}, Mok s → Mok (runS k s)
  | 0, s, h => h
  | k + 1, s, h => by
    unfold runS
    split
    · exact h
    · split
      · exact stepF_ok' h
      · exact runS_ok k (stepF_ok' h)
theorem runS_len : ∀ (k : Nat) (s : Mch), (runS k s).V.length = s.V.length
  | 0, s => rfl
  | k + 1, s => by
    unfold runS
    split
    · rfl
    · split
      · exact stepF_len s
      · rw [runS_len k]; exact stepF_len s
theorem runL_len : ∀ (k : Nat) (s : Mch), (runL k s).length ≤ k
  | 0, s => Nat.le_refl _
  | k + 1, s => by
    have := runL_len k (stepF s).1
    unfold runL
    repeat' split
    all_goals simp
    omega
theorem run_still {k : Nat} {q : Mch} (h : q.m ≠ 0) : runL k q = [] ∧ runS k q = q := by
  cases k with
  | zero => exact ⟨rfl, rfl⟩
  | succ k => exact ⟨by unfold runL; rw [if_pos h], by unfold runS; rw [if_pos h]⟩
theorem run_call {k : Nat} {q : Mch} (h : q.m = 0) (h2 : (stepF q).2.1 = 2) (hk : 0 < k) : runL k q = [(stepF q).2] ∧ runS k q = (stepF q).1 := by
  cases k with
  | zero => omega
  | succ k => exact ⟨by unfold runL; rw [if_neg (by simpa using h), if_pos h2], by unfold runS; rw [if_neg (by simpa using h), if_pos h2]⟩
theorem run_on {k : Nat} {q : Mch} (h : q.m = 0) (h2 : ¬ (stepF q).2.1 = 2) (hk : 0 < k) : runL k q = (stepF q).2 :: runL (k - 1) (stepF q).1 ∧ runS k q = runS (k - 1) (stepF q).1 := by
  cases k with
  | zero => omega
  | succ k => exact ⟨by rw [Nat.add_sub_cancel]; conv => lhs; unfold runL; rw [if_neg (by simpa using h), if_neg h2], by rw [Nat.add_sub_cancel]; conv => lhs; unfold runS; rw [if_neg (by simpa using h), if_neg h2]⟩
theorem Tryz.cpuStepS (b : Nat) (pre post : List UInt8) (base size : Int) (s : Mch) (L : List HP) (hb : base = pre.length) (hs : size = s.V.length) (hx : (pre ++ s.V ++ post).length ≤ 16384) (hr : Mok s) :
    Con Tryz.prog 186 [viewV b base size, stO s] (Tryz.memH b (pre ++ s.V ++ post) :: L) (Is (.tuple #[stO (stepF s).1, outV (stepF s).2]) (Tryz.memH b (pre ++ (stepF s).1.V ++ post) :: L)) :=
  Tryz.cpuStep b pre s.V post base size s.pc s.m s.r L hb hs hx hr.regs
theorem all_take {V : List UInt8} : ((V.take (0 + V.length)).drop 0) = V := by rw [Nat.zero_add, List.take_length, List.drop_zero]
theorem Tryz.cpuText (b : Nat) (pre V post : List UInt8) (base size : Int) (L : List HP) (hb : base = pre.length) (hs : size = V.length) (hx : (pre ++ V ++ post).length ≤ 16384) :
    Con Tryz.prog 200 [viewV b base size] (Tryz.memH b (pre ++ V ++ post) :: L) (Is (.string ⟨V.toArray⟩) (Tryz.memH b (pre ++ V ++ post) :: L)) := by
  have hxl : (pre ++ V ++ post).length = pre.length + V.length + post.length := by simp only [List.length_append]
  have hv := Tryz.viewText b pre V post base size 0 (max size 0) 0 V.length
  rw [all_take] at hv
  generalize pre ++ V ++ post = X at *
  refine con_of Tryz.tysOk Tryz.func200 rfl rfl ?_
  conv => whnf
  repeat' (first
    | ((with_reducible refine Nd.mk ?_ ?_); (focus (first | omega | rfl | assumption | (simp; done))); conv => whnf)
    | ((with_reducible refine Nc.go' (fun _ => ?_)); conv => whnf)
    | (refine Ld.at 0 rfl rfl ?_; conv => whnf)
    | (refine LdN.at 0 rfl (by first | exact Nat.le_of_ble_eq_true rfl | (simp; done)) ?_; conv => whnf)
    | ((refine Cl.isAt 1 rfl (hv _ hb hs hx rfl (by omega) (by omega)) ?_); conv => whnf))
  all_goals (refine Is.ent ?_ ?_; (focus (refine FEnt.ent ?_; (repeat (first | exact FEnt.rfl | (refine FEnt.at 1 rfl ?_; (try simp only [List.eraseIdx_cons_zero, List.eraseIdx_cons_succ, List.eraseIdx_zero, List.tail_cons])) | refine FEnt.drop ?_)); done)); (exact Is.rfl))
theorem Tryz.cpuGive (pc m x n : Int) (r : Nat → Int) (L : List HP) (hn : I64 n) (hx : 0 ≤ x ∧ x < 8) : Con Tryz.prog 188 [stV pc r m, i64W x, i64W n] L (Is (stV pc (upd r x.toNat (n % 65536)) m) L) := by
  refine con_of Tryz.tysOk Tryz.func188 rfl rfl ?_
  conv => whnf
  repeat' (first
    | (first | ((with_reducible refine Br.tt ?_); conv => whnf) | ((with_reducible refine Br.dt ?_ ?_); (focus (first | assumption | omega)); conv => whnf))
    | ((with_reducible refine Nd.mk ?_ ?_); (focus (first | omega | rfl | assumption | (simp; done))); conv => whnf)
    | ((with_reducible refine Nc.go' (fun _ => ?_)); conv => whnf)
    | ((with_reducible refine Ix.arr ?_ ?_); (focus (omega)); conv => whnf)
    | (first | (refine LdN.at 0 rfl (by first | exact Nat.le_of_ble_eq_true rfl | (simp; done)) ?_; conv => whnf) | (refine LdN.at 1 rfl (by first | exact Nat.le_of_ble_eq_true rfl | (simp; done)) ?_; conv => whnf))
    | (first | (refine St.reg 1 rfl ?_ ?_; (focus (omega)); conv => whnf) | (refine St.at 0 rfl (by first | exact Nat.le_of_ble_eq_true rfl | (simp; done)) rfl ?_; conv => whnf))
    | ((with_reducible refine Cl.is (Tryz.cpuWord _ _ hn) ?_); conv => whnf))
  all_goals (refine Is.ent ?_ ?_; (focus (refine FEnt.ent ?_; (repeat (first | exact FEnt.rfl | refine FEnt.drop ?_)); done)); (exact Is.rfl))
theorem Tryz.cpuGiveNo (pc m x n : Int) (r : Nat → Int) (L : List HP) (hx : ¬ (0 ≤ x ∧ x < 8)) : Con Tryz.prog 188 [stV pc r m, i64W x, i64W n] L (Is (stV pc r m) L) := by
  refine con_of Tryz.tysOk Tryz.func188 rfl rfl ?_
  conv => whnf
  repeat' (first
    | (first | ((with_reducible refine Br.tt ?_); conv => whnf) | ((with_reducible refine Br.ff ?_); conv => whnf) | ((with_reducible refine Br.df ?_ ?_); (focus (first | assumption | omega)); conv => whnf))
    | ((with_reducible refine Nd.mk ?_ ?_); (focus (first | omega | rfl | assumption | (simp; done))); conv => whnf)
    | ((with_reducible refine Nc.go' (fun _ => ?_)); conv => whnf)
    | (first | (refine LdN.at 0 rfl (by first | exact Nat.le_of_ble_eq_true rfl | (simp; done)) ?_; conv => whnf) | (refine LdN.at 1 rfl (by first | exact Nat.le_of_ble_eq_true rfl | (simp; done)) ?_; conv => whnf))
    | (refine St.at 0 rfl (by first | exact Nat.le_of_ble_eq_true rfl | (simp; done)) rfl ?_; conv => whnf)
    | ((with_reducible refine Br.ds (fun _ => ?_) (fun _ => ?_) ) <;> (conv => whnf)))
  all_goals (refine Is.ent ?_ ?_; (focus (refine FEnt.ent ?_; (repeat (first | exact FEnt.rfl | refine FEnt.drop ?_)); done)); (exact Is.rfl))
theorem Tryz.cpuWake (pc m : Int) (r : Nat → Int) (L : List HP) : Con Tryz.prog 176 [stV pc r m] L (Is (stV pc r (if m = 1 then 0 else m)) L) := by
  by_cases h : m = 1
  · rw [if_pos h]
    subst h
    refine con_of Tryz.tysOk Tryz.func176 rfl rfl ?_
    conv => whnf
    repeat' (first
      | ((with_reducible refine Br.dt ?_ ?_); (focus (first | assumption | omega)); conv => whnf)
      | ((with_reducible refine Nd.mk ?_ ?_); (focus (first | omega | rfl | assumption | (simp; done))); conv => whnf)
      | ((with_reducible refine Nc.go' (fun _ => ?_)); conv => whnf)
      | (refine Ld.at 1 rfl rfl ?_; conv => whnf)
      | (first | (refine LdN.at 0 rfl (by first | exact Nat.le_of_ble_eq_true rfl | (simp; done)) ?_; conv => whnf) | (refine LdN.at 1 rfl (by first | exact Nat.le_of_ble_eq_true rfl | (simp; done)) ?_; conv => whnf))
      | (first | (refine St.at 0 rfl (by first | exact Nat.le_of_ble_eq_true rfl | (simp; done)) rfl ?_; conv => whnf) | (refine St.at 1 rfl (by first | exact Nat.le_of_ble_eq_true rfl | (simp; done)) rfl ?_; conv => whnf)))
    all_goals (refine Is.ent ?_ ?_; (focus (refine FEnt.ent ?_; (repeat (first | exact FEnt.rfl | refine FEnt.drop ?_)); done)); (exact Is.rfl))
  · rw [if_neg h]
    refine con_of Tryz.tysOk Tryz.func176 rfl rfl ?_
    conv => whnf
    repeat' (first
      | ((with_reducible refine Br.df ?_ ?_); (focus (first | assumption | omega)); conv => whnf)
      | ((with_reducible refine Nd.mk ?_ ?_); (focus (first | omega | rfl | assumption | (simp; done))); conv => whnf)
      | ((with_reducible refine Nc.go' (fun _ => ?_)); conv => whnf)
      | (refine Ld.at 1 rfl rfl ?_; conv => whnf)
      | (first | (refine LdN.at 0 rfl (by first | exact Nat.le_of_ble_eq_true rfl | (simp; done)) ?_; conv => whnf) | (refine LdN.at 1 rfl (by first | exact Nat.le_of_ble_eq_true rfl | (simp; done)) ?_; conv => whnf))
      | (refine St.at 0 rfl (by first | exact Nat.le_of_ble_eq_true rfl | (simp; done)) rfl ?_; conv => whnf))
    all_goals (refine Is.ent ?_ ?_; (focus (refine FEnt.ent ?_; (repeat (first | exact FEnt.rfl | refine FEnt.drop ?_)); done)); (exact Is.rfl))
end Go.Proofs
set_option linter.all false
namespace Go.Proofs
open Go.Eng
set_option linter.unusedVariables false
set_option maxRecDepth 100000
set_option maxHeartbeats 8000000
/-- a program, at the head of so many bytes -/
def startV (s : ByteArray) (N : Nat) : List UInt8 := lay (zeros N) 0 (s.extract 0 (min (s.size : Int) (N : Int)).toNat).data.toList
theorem startV_len (s : ByteArray) (N : Nat) : (startV s N).length = N := by
  unfold startV
  rw [lay_len (by rw [extract_list, List.drop_zero, List.length_take, size_list, List.length_replicate]; omega), List.length_replicate]
theorem zeros_parts {n B N R : Nat} (h : n = B + N + R) : zeros n = zeros B ++ zeros N ++ zeros R := by
  subst h
  simp [zeros, List.replicate_append_replicate]
theorem Tryz.memNewP (n : Int) (B N R : Nat) (L : List HP) (hn : n = (B + N + R : Nat)) (h : n ≤ 16384) :
    Con Tryz.prog 22 [i64V n] L (Exs pV (fun b => Tryz.memH b (zeros B ++ zeros N ++ zeros R) :: L) (fun _ => True)) := by
  have := Tryz.memNew n L ⟨by omega, by omega⟩
  rw [zeros_parts (B := B) (N := N) (R := R) (by omega)] at this
  exact this
theorem Tryz.memPutP (b : Nat) (B N R : Nat) (at_ : Int) (s : ByteArray) (L : List HP) (hl : B + N + R ≤ 16384) (ha : at_ = B) (h : s.size ≤ N) :
    Con Tryz.prog 74 [pV b, i64V at_, .string s] (Tryz.memH b (zeros B ++ zeros N ++ zeros R) :: L) (Is (i64V 0) (Tryz.memH b (zeros B ++ lay (zeros N) 0 s.data.toList ++ zeros R) :: L)) := by
  have hB : (zeros B).length = B := List.length_replicate
  have hN : (zeros N).length = N := List.length_replicate
  have hR : (zeros R).length = R := List.length_replicate
  have hlen : (zeros B ++ zeros N ++ zeros R).length = B + N + R := by rw [List.length_append, List.length_append, hB, hN, hR]
  rw [← mid_lay (by rw [size_list]; omega)]
  exact Tryz.memPut b _ ((zeros B).length + 0) _ s L (by omega) (by omega) (by omega)
/-- the program that is tried whatever is asked -/
def liveS : ByteArray := ⟨#[1, 1, 7, 0, 3, 1, 1, 0, 0, 0, 0, 0]⟩
def liveM : Mch := ⟨lay (zeros 12) 0 liveS.data.toList, 0, fun _ => 0, 0⟩
theorem live_1 : (runS 9 liveM).r 1 = 14 := by kernel_rfl
theorem live_2 : (runS 9 liveM).pc = 8 := by kernel_rfl
theorem live_3 : (runS 9 liveM).m = 2 := by kernel_rfl
theorem live_4 : (runL 9 liveM).length = 3 := by kernel_rfl
theorem live_5 : ((runL 9 liveM).getD (Int.toNat 2) outE.d).1 = 4 := by kernel_rfl
end Go.Proofs
set_option linter.all false
namespace Go.Proofs
open Go.Eng
set_option linter.unusedVariables false
set_option maxRecDepth 100000
set_option maxHeartbeats 600000
theorem lay_all {α : Type} {xs ys : List α} (h : ys.length = xs.length) : lay xs 0 ys = ys := by
  unfold lay
  rw [List.drop_of_length_le (by omega)]
  simp
/-- are two rows unlike at a place? -/
def unl {α : Type} (d : α) (xs ys : List α) (m : Int) : Prop := ¬ (m < xs.length ∧ m < ys.length ∧ xs.getD m.toNat d = ys.getD m.toNat d)
/-- the places of which something is so, one by one -/
noncomputable def sing (p : Int → Prop) : Nat → List Sp
  | 0 => []
  | k + 1 => by classical exact if p k then sing p k ++ [((k : Int), (k : Int) + 1)] else sing p k
theorem sing_yes {p : Int → Prop} {k : Nat} (h : p k) : sing p (k + 1) = sing p k ++ [((k : Int), (k : Int) + 1)] := by simp [sing, h]
theorem sing_no {p : Int → Prop} {k : Nat} (h : ¬ p k) : sing p (k + 1) = sing p k := by simp [sing, h]
theorem sing_len (p : Int → Prop) : ∀ k, (sing p k).length ≤ k
  | 0 => Nat.le_refl _
  | k + 1 => by
    have := sing_len p k
    by_cases h : p k
    · rw [sing_yes h, List.length_append]; simp; omega
    · rw [sing_no h]; omega
theorem sing_in (p : Int → Prop) (m : Int) : ∀ k : Nat, inS (sing p k) m ↔ 0 ≤ m ∧ m < k ∧ p m
  | 0 => ⟨fun h => (inS_nil h).elim, fun h => by omega⟩
  | k + 1 => by
    have ih := sing_in p m k
    by_cases h : p k
    · rw [sing_yes h, inS_append, inS_one, ih]
      constructor
      · rintro (⟨h1, h2, h3⟩ | ⟨h1, h2, h3⟩)
        · exact ⟨h1, by omega, h3⟩
        · have : m = k := by simp at h2 h3; omega
          subst this
          exact ⟨by omega, by omega, h⟩
      · rintro ⟨h1, h2, h3⟩
        by_cases e : m < k
        · exact .inl ⟨h1, e, h3⟩
        · exact .inr ⟨by simp, by simp; omega, by simp; omega⟩
    · rw [sing_no h, ih]
      constructor
      · rintro ⟨h1, h2, h3⟩; exact ⟨h1, by omega, h3⟩
      · rintro ⟨h1, h2, h3⟩
        refine ⟨h1, ?_, h3⟩
        by_cases e : m = k
        · subst e; exact (h h3).elim
        · omega
theorem sing_merge (p : Int → Prop) (n : Nat) : mergeF (sing p n) = runF n p := by
  refine mergeF_eq runs_ok.canon fun m => ?_
  rw [runs_ok.same, sing_in]
end Go.Proofs
set_option linter.all false
namespace Go.Proofs
open Go.Eng
set_option linter.unusedVariables false
set_option maxRecDepth 100000
set_option maxHeartbeats 2000000
theorem seg_len2 {pre V post : List UInt8} {B N R : Nat} (hB : pre.length = B) (hN : V.length = N) (hR : post.length = R) : (pre ++ V ++ post).length = B + N + R := by
  simp only [List.length_append]; omega
theorem zeros_ex (B : Nat) : ∃ pre, zeros B = pre ∧ pre.length = B := ⟨zeros B, rfl, List.length_replicate⟩
theorem startM_ok2 {s : ByteArray} {N : Nat} {pc m : Int} {r : Nat → Int} (hN : N ≤ 400) (hpc : I64 pc) (hr : ∀ i, I64 (r i)) : Mok ⟨startV s N, pc, r, m⟩ := ⟨hr, hpc, by rw [startV_len]; exact hN⟩
/-- where two are unlike: within -/
theorem unl_seg {pre V W post : List UInt8} {B N R : Nat} (hB : pre.length = B) (hR : post.length = R) (hV : V.length = N) (hW : W.length = N) {m : Int} (h0 : 0 ≤ m) (hm : m < (B + N + R : Nat)) (h : unl 0 (pre ++ V ++ post) (pre ++ W ++ post) m) : (B : Int) ≤ m ∧ m < B + N := by
  have l1 := seg_len2 hB hV hR
  have l2 := seg_len2 hB hW hR
  have key : ∀ {X Y : List UInt8}, X.length = N → Y.length = N → ¬ ((B : Int) ≤ m ∧ m < B + N) → (pre ++ X ++ post).getD m.toNat 0 = (pre ++ Y ++ post).getD m.toNat 0 := by
    intro X Y hX hY hno
    simp only [List.getD_eq_getElem?_getD]
    by_cases h1 : m.toNat < B
    · rw [List.append_assoc, List.append_assoc, List.getElem?_append_left (by omega), List.getElem?_append_left (by omega)]
    · have e1 : (pre ++ X).length = B + N := by rw [List.length_append, hB, hX]
      have e2 : (pre ++ Y).length = B + N := by rw [List.length_append, hB, hY]
      rw [List.getElem?_append_right (by omega), List.getElem?_append_right (by omega), e1, e2]
  exact Classical.byContradiction fun hno => h ⟨by omega, by omega, key hV hW hno⟩
theorem diff_seg {pre V W post : List UInt8} {B N R : Nat} (hB : pre.length = B) (hR : post.length = R) (hV : V.length = N) (hW : W.length = N) : ∀ y ∈ runF (max (pre ++ V ++ post).length (pre ++ W ++ post).length : Nat) (unl 0 (pre ++ V ++ post) (pre ++ W ++ post)), (B : Int) ≤ y.1 ∧ y.2 ≤ B + N := by
  intro y hy
  have l1 := seg_len2 hB hV hR
  have l2 := seg_len2 hB hW hR
  have ho : RunsOf (max (pre ++ V ++ post).length (pre ++ W ++ post).length : Nat) (unl 0 (pre ++ V ++ post) (pre ++ W ++ post)) _ := runs_ok
  have hi := ho.canon.is y hy
  obtain ⟨a1, a2, a3⟩ := (ho.same y.1).1 ⟨y, hy, by omega⟩
  obtain ⟨c1, c2, c3⟩ := (ho.same (y.2 - 1)).1 ⟨y, hy, by omega⟩
  have d1 := unl_seg hB hR hV hW a1 (by omega) a3
  have d2 := unl_seg hB hR hV hW c1 (by omega) c3
  omega
end Go.Proofs
set_option linter.all false
namespace Go.Proofs
open Go.Eng
set_option linter.unusedVariables false
set_option maxRecDepth 100000
set_option maxHeartbeats 2000000
/-- a mark -/
abbrev Mk6 := Int × Int × Int × Int × Int × ByteArray
def markE : Enc Mk6 := ⟨6, fun m => [i64W m.1, u8W m.2.1, i64W m.2.2.1, i64W m.2.2.2.1, i64W m.2.2.2.2.1, .string m.2.2.2.2.2], (0, 0, 0, 0, 0, ByteArray.empty), fun _ => rfl, by omega, fun _ => rfl⟩
/-- what may be told: tick, frame, done, drops, bits -/
abbrev Fct := Int × Int × Int × Int × Int
abbrev fctV (f : Fct) : Value := .agg #[i64W f.1, i64W f.2.1, i64W f.2.2.1, i64W f.2.2.2.1, i64W f.2.2.2.2]
abbrev fctI (f : Fct) : Prop := I64 f.1 ∧ I64 f.2.1 ∧ I64 f.2.2.1 ∧ I64 f.2.2.2.1 ∧ I64 f.2.2.2.2
def resF (n : Int) (f : Fct) : Int := if n = 1 then f.1 % 65536 else if n = 2 then f.2.2.1 % 65536 else if n = 3 then f.2.2.2.1 % 65536 else if n = 4 then f.2.2.2.2 % 65536 else if n = 5 then f.2.1 % 65536 else 65535
theorem resF_bd (n : Int) (f : Fct) : 0 ≤ resF n f ∧ resF n f ≤ 65535 := by
  unfold resF
  repeat' split
  all_goals omega
theorem resF_else {n : Int} {f : Fct} (h1 : ¬ n = 1) (h2 : ¬ n = 2) (h3 : ¬ n = 3) (h4 : ¬ n = 4) (h5 : ¬ n = 5) : resF n f = 65535 := by
  unfold resF
  rw [if_neg h1, if_neg h2, if_neg h3, if_neg h4, if_neg h5]
theorem Tryz.partResult (n : Int) (f : Fct) (L : List HP) (hf : fctI f) : Con Tryz.prog 187 [i64W n, fctV f] L (Is (i64W (resF n f)) L) := by
  obtain ⟨f1, f2, f3, f4, f5⟩ := hf
  by_cases h1 : n = 1
  · subst h1
    refine con_of Tryz.tysOk Tryz.func187 rfl rfl ?_
    conv => whnf
    repeat' (first
      | ((with_reducible refine Br.dt ?_ ?_); (focus (first | assumption | omega)); conv => whnf)
      | ((with_reducible refine Bt.low16 ?_ ?_); (focus (first | assumption | omega)); conv => whnf)
      | ((with_reducible refine Nc.go' (fun _ => ?_)); conv => whnf)
      | (refine Ld.at 0 rfl rfl ?_; conv => whnf))
    all_goals (refine Is.ent ?_ ?_; (focus (refine FEnt.ent ?_; (repeat (first | exact FEnt.rfl | refine FEnt.drop ?_)); done)); (exact Is.rfl))
  · by_cases h2 : n = 2
    · subst h2
      refine con_of Tryz.tysOk Tryz.func187 rfl rfl ?_
      conv => whnf
      repeat' (first
        | (first | ((with_reducible refine Br.dt ?_ ?_); (focus (first | assumption | omega)); conv => whnf) | ((with_reducible refine Br.df ?_ ?_); (focus (first | assumption | omega)); conv => whnf))
        | ((with_reducible refine Bt.low16 ?_ ?_); (focus (first | assumption | omega)); conv => whnf)
        | ((with_reducible refine Nc.go' (fun _ => ?_)); conv => whnf)
        | (refine Ld.at 0 rfl rfl ?_; conv => whnf))
      all_goals (refine Is.ent ?_ ?_; (focus (refine FEnt.ent ?_; (repeat (first | exact FEnt.rfl | refine FEnt.drop ?_)); done)); (exact Is.rfl))
    · by_cases h3 : n = 3
      · subst h3
        refine con_of Tryz.tysOk Tryz.func187 rfl rfl ?_
        conv => whnf
        repeat' (first
          | (first | ((with_reducible refine Br.dt ?_ ?_); (focus (first | assumption | omega)); conv => whnf) | ((with_reducible refine Br.df ?_ ?_); (focus (first | assumption | omega)); conv => whnf))
          | ((with_reducible refine Bt.low16 ?_ ?_); (focus (first | assumption | omega)); conv => whnf)
          | ((with_reducible refine Nc.go' (fun _ => ?_)); conv => whnf)
          | (refine Ld.at 0 rfl rfl ?_; conv => whnf))
        all_goals (refine Is.ent ?_ ?_; (focus (refine FEnt.ent ?_; (repeat (first | exact FEnt.rfl | refine FEnt.drop ?_)); done)); (exact Is.rfl))
      · by_cases h4 : n = 4
        · subst h4
          refine con_of Tryz.tysOk Tryz.func187 rfl rfl ?_
          conv => whnf
          repeat' (first
            | (first | ((with_reducible refine Br.dt ?_ ?_); (focus (first | assumption | omega)); conv => whnf) | ((with_reducible refine Br.df ?_ ?_); (focus (first | assumption | omega)); conv => whnf))
            | ((with_reducible refine Bt.low16 ?_ ?_); (focus (first | assumption | omega)); conv => whnf)
            | ((with_reducible refine Nc.go' (fun _ => ?_)); conv => whnf)
            | (refine Ld.at 0 rfl rfl ?_; conv => whnf))
          all_goals (refine Is.ent ?_ ?_; (focus (refine FEnt.ent ?_; (repeat (first | exact FEnt.rfl | refine FEnt.drop ?_)); done)); (exact Is.rfl))
        · by_cases h5 : n = 5
          · subst h5
            refine con_of Tryz.tysOk Tryz.func187 rfl rfl ?_
            conv => whnf
            repeat' (first
              | (first | ((with_reducible refine Br.dt ?_ ?_); (focus (first | assumption | omega)); conv => whnf) | ((with_reducible refine Br.df ?_ ?_); (focus (first | assumption | omega)); conv => whnf))
              | ((with_reducible refine Bt.low16 ?_ ?_); (focus (first | assumption | omega)); conv => whnf)
              | ((with_reducible refine Nc.go' (fun _ => ?_)); conv => whnf)
              | (refine Ld.at 0 rfl rfl ?_; conv => whnf))
            all_goals (refine Is.ent ?_ ?_; (focus (refine FEnt.ent ?_; (repeat (first | exact FEnt.rfl | refine FEnt.drop ?_)); done)); (exact Is.rfl))
          · rw [resF_else h1 h2 h3 h4 h5]
            refine con_of Tryz.tysOk Tryz.func187 rfl rfl ?_
            conv => whnf
            repeat' (first
              | ((with_reducible refine Br.df ?_ ?_); (focus (first | assumption | omega)); conv => whnf)
              | ((with_reducible refine Nc.go' (fun _ => ?_)); conv => whnf))
            all_goals (refine Is.ent ?_ ?_; (focus (refine FEnt.ent ?_; (repeat (first | exact FEnt.rfl | refine FEnt.drop ?_)); done)); (exact Is.rfl))
theorem low_high (x : Int) : x % 256 + 256 * (x / 256 % 256) = x % 65536 := by omega
/-- a partition -/
abbrev parC (b : Nat) (base size owner : Int) (q : Mch) : List Value := pV b :: i64W base :: i64W size :: i64W owner :: stC q.pc q.r q.m
/-- its window begins -/
def opnF (q : Mch) : Mch := ⟨q.V, q.pc, q.r, if q.m = 1 then 0 else q.m⟩
def opnL (q : Mch) (tick bits : Int) : List Mk6 := if bits = 0 then [(tick, 1, 0, 0, 0, ⟨q.V.toArray⟩)] else [(tick, 1, 0, 0, 0, ⟨q.V.toArray⟩), (tick, 2, bits, 0, 0, ⟨#[]⟩)]
/-- one step -/
def pstF (q : Mch) (f : Fct) : Mch := if (stepF q).2.1 = 2 then ⟨(stepF q).1.V, (stepF q).1.pc, upd (stepF q).1.r (stepF q).2.2.2.1.toNat (resF (stepF q).2.2.1 f), (stepF q).1.m⟩ else (stepF q).1
def pstL (q : Mch) (f : Fct) : List Mk6 := if (stepF q).2.1 = 2 then [(f.1, 3, (stepF q).2.2.1, resF (stepF q).2.2.1 f, 0, ⟨#[]⟩)] else if (stepF q).2.1 = 4 ∨ (stepF q).2.1 = 5 then [(f.1, 4, (stepF q).2.2.2.2, 0, 0, ⟨#[]⟩)] else []
def pstB (q : Mch) : Bool := decide ((stepF q).2.1 = 2 ∧ (stepF q).2.2.1 = 4)
theorem step_call {q : Mch} (h : (stepF q).2.1 = 2) : 0 ≤ (stepF q).2.2.2.1 ∧ (stepF q).2.2.2.1 < 8 := by
  revert h
  unfold stepF
  split
  · intro h; exact (by decide : ¬ (0 : Int) = 2) h |>.elim
  · split
    · intro h; exact (by decide : ¬ (5 : Int) = 2) h |>.elim
    · split
      · intro h; exact (by decide : ¬ (5 : Int) = 2) h |>.elim
      · split
        · intro h; exact (by decide : ¬ (5 : Int) = 2) h |>.elim
        · rename_i hi hk
          have hm := Classical.not_not.1 hi
          intro _
          show 0 ≤ (outF _ _ _).2.2.1 ∧ (outF _ _ _).2.2.1 < 8
          unfold outF
          repeat' split
          all_goals first | exact ⟨by decide, by decide⟩ | exact ⟨hm.2.2.1, by show insX (at4 q.V q.pc.toNat) < 8; have := hm.2.2.2.1; omega⟩
theorem step_what (q : Mch) : (stepF q).2.1 = 0 ∨ (stepF q).2.1 = 1 ∨ (stepF q).2.1 = 2 ∨ (stepF q).2.1 = 3 ∨ (stepF q).2.1 = 4 ∨ (stepF q).2.1 = 5 := by
  unfold stepF
  repeat' split
  · exact .inl rfl
  · exact .inr (.inr (.inr (.inr (.inr rfl))))
  · exact .inr (.inr (.inr (.inr (.inr rfl))))
  · exact .inr (.inr (.inr (.inr (.inr rfl))))
  · show (outF _ _ _).1 = 0 ∨ _
    unfold outF
    repeat' split
    · exact .inr (.inr (.inr (.inr (.inl rfl))))
    · exact .inr (.inr (.inr (.inl rfl)))
    · exact .inr (.inr (.inl rfl))
    · exact .inr (.inl rfl)
theorem opn_ok {q : Mch} (h : Mok q) : Mok (opnF q) := ⟨h.regs, h.pcI, h.few⟩
theorem pst_ok {q : Mch} {f : Fct} (h : Mok q) : Mok (pstF q f) := by
  unfold pstF
  split
  · have hs := stepF_ok' h
    exact ⟨upd_I hs.regs (by have := resF_bd (stepF q).2.2.1 f; exact ⟨by omega, by omega⟩), hs.pcI, hs.few⟩
  · exact stepF_ok' h
theorem pst_len (q : Mch) (f : Fct) : (pstF q f).V.length = q.V.length := by
  unfold pstF
  split
  · exact stepF_len q
  · exact stepF_len q
end Go.Proofs
