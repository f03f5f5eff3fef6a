/- The check of bytes, the program's and the document's: contracts. -/
import Derived.Test.YtdjpcfaidgofoaaGreatEngMap
import Derived.Test.YtdjpcfaidgofoaaGreatTys
set_option linter.all false
namespace Go.Eng
open Go
theorem Ar.shl1 {x : Int} {K : Int → Prop} (h : -9223372036854775808 ≤ x * 2 ∧ x * 2 ≤ 9223372036854775807) (k : K (x * 2)) : Ar .i64 (x * 2 ^ (min (Int.toNat 1) (IntKind.bits .i64))) K := Ar.i64 (n := x * 2) h k
end Go.Eng
namespace Go.Proofs
open Go.Eng
open Classical
set_option linter.unusedVariables false
set_option maxRecDepth 100000
set_option maxHeartbeats 4000000
/-! bits of numbers -/
theorem xor_nat {a b : Nat} (ha : a < 65536) (hb : b < 65536) : bits .xor .i64 (a : Int) (b : Int) = ((a ^^^ b : Nat) : Int) := by
  have h : a ^^^ b < 65536 := Nat.xor_lt_two_pow (n := 16) ha hb
  show IntKind.i64.wrap ((BitVec.ofInt 64 (a : Int) ^^^ BitVec.ofInt 64 (b : Int)).toNat : Int) = _
  have e : (BitVec.ofInt 64 (a : Int) ^^^ BitVec.ofInt 64 (b : Int)).toNat = a ^^^ b := by
    rw [BitVec.toNat_xor, BitVec.toNat_ofInt, BitVec.toNat_ofInt]
    have e1 : ((a : Int) % (2 ^ 64 : Nat)).toNat = a := by omega
    have e2 : ((b : Int) % (2 ^ 64 : Nat)).toNat = b := by omega
    rw [e1, e2]
  rw [e, IntKind.wrap_i64]
  omega
theorem and_nat {a b : Nat} (ha : a < 65536) (hb : b < 65536) : bits .and .i64 (a : Int) (b : Int) = ((a &&& b : Nat) : Int) := by
  have h : a &&& b < 65536 := Nat.and_lt_two_pow (n := 16) a hb
  show IntKind.i64.wrap ((BitVec.ofInt 64 (a : Int) &&& BitVec.ofInt 64 (b : Int)).toNat : Int) = _
  have e : (BitVec.ofInt 64 (a : Int) &&& BitVec.ofInt 64 (b : Int)).toNat = a &&& b := by
    rw [BitVec.toNat_and, BitVec.toNat_ofInt, BitVec.toNat_ofInt]
    have e1 : ((a : Int) % (2 ^ 64 : Nat)).toNat = a := by omega
    have e2 : ((b : Int) % (2 ^ 64 : Nat)).toNat = b := by omega
    rw [e1, e2]
  rw [e, IntKind.wrap_i64]
  omega
theorem and_top {a : Nat} (ha : a < 65536) : a &&& 32768 = 32768 * (a / 32768) := by
  have h1 : a / 32768 < 2 := by omega
  refine Nat.eq_of_testBit_eq fun i => ?_
  rw [Nat.testBit_and]
  have e : (32768 : Nat) = 2 ^ 15 := rfl
  rw [e, Nat.testBit_two_pow]
  by_cases hi : 15 = i
  · subst hi
    rw [Nat.testBit_two_pow_mul]
    simp [Nat.testBit, Nat.shiftRight_eq_div_pow]
  · rw [decide_eq_false hi, Bool.and_false, Nat.testBit_two_pow_mul]
    by_cases h2 : i ≥ 15
    · have : (a / 2 ^ 15).testBit (i - 15) = false := Nat.testBit_lt_two_pow (Nat.lt_of_lt_of_le h1 (by
        have : 2 ^ 1 ≤ 2 ^ (i - 15) := Nat.pow_le_pow_right (by omega) (by omega)
        omega))
      rw [this]
      simp
    · rw [decide_eq_false (by omega)]
      rfl
/-! the check: plain -/
def pushN (s b : Nat) : Nat := if s / 32768 ≠ b then (s * 2 % 65536) ^^^ 4129 else s * 2 % 65536
def bitN (b i : Nat) : Nat := b / 2 ^ (7 - i) % 2
def byteR (s b : Nat) : Nat → Nat
  | 0 => s
  | k + 1 => pushN (byteR s b k) (bitN b k)
def sumR (s : Nat) (l : List UInt8) : Nat := l.foldl (fun s x => byteR s x.toNat 8) s
theorem push_lt (s b : Nat) : pushN s b < 65536 := by
  have h : s * 2 % 65536 < 65536 := Nat.mod_lt _ (by omega)
  unfold pushN
  split
  · exact Nat.xor_lt_two_pow (n := 16) h (by decide)
  · exact h
theorem byteR_lt {s b : Nat} (hs : s < 65536) : ∀ k, byteR s b k < 65536
  | 0 => hs
  | k + 1 => push_lt _ _
theorem sumR_lt : ∀ (l : List UInt8) (s : Nat), s < 65536 → sumR s l < 65536
  | [], s, h => h
  | x :: l, s, h => sumR_lt l _ (byteR_lt h 8)
/-- a round of the program's -/
def rndN (m : Nat) : Nat := if m / 32768 ≠ 0 then (m * 2 % 65536) ^^^ 4129 else m * 2 % 65536
def rndK : Nat → Nat → Nat
  | 0, m => m
  | k + 1, m => rndN (rndK k m)
theorem rnd_lt (m : Nat) : rndN m < 65536 := by
  have h : m * 2 % 65536 < 65536 := Nat.mod_lt _ (by omega)
  unfold rndN
  split
  · exact Nat.xor_lt_two_pow (n := 16) h (by decide)
  · exact h
theorem rndK_lt {m : Nat} (h : m < 65536) : ∀ k, rndK k m < 65536
  | 0 => h
  | k + 1 => rnd_lt _
theorem xor_top (d r : Nat) : (d ^^^ r) / 32768 = (d / 32768) ^^^ (r / 32768) := by
  have := Nat.shiftRight_xor_distrib (a := d) (b := r) (i := 15)
  simpa [Nat.shiftRight_eq_div_pow] using this
theorem xor_dbl (d r : Nat) : (d ^^^ r) * 2 % 65536 = (d * 2 % 65536) ^^^ (r * 2 % 65536) := by
  have h1 : (d ^^^ r) * 2 = (d * 2) ^^^ (r * 2) := by
    have := Nat.shiftLeft_xor_distrib (a := d) (b := r) (i := 1)
    simpa [Nat.shiftLeft_eq] using this
  have h2 := Nat.xor_mod_two_pow (a := d * 2) (b := r * 2) (n := 16)
  rw [h1]
  exact h2
theorem rnd_xor {d r : Nat} (hd : d < 65536) (hr : r < 65536) : rndN (d ^^^ r) = pushN d (r / 32768) ^^^ (r * 2 % 65536) := by
  have h1 : d / 32768 = 0 ∨ d / 32768 = 1 := by omega
  have h2 : r / 32768 = 0 ∨ r / 32768 = 1 := by omega
  have hc : ((d / 32768) ^^^ (r / 32768) ≠ 0) ↔ d / 32768 ≠ r / 32768 := by
    rcases h1 with h1 | h1 <;> rcases h2 with h2 | h2 <;> rw [h1, h2] <;> decide
  unfold rndN pushN
  rw [xor_top, xor_dbl]
  by_cases h : d / 32768 ≠ r / 32768
  · rw [if_pos (hc.2 h), if_pos h, Nat.xor_assoc, Nat.xor_assoc, Nat.xor_comm 4129]
  · rw [if_neg (fun hh => h (hc.1 hh)), if_neg h]
def restN (b k : Nat) : Nat := b * 2 ^ (8 + k) % 65536
theorem rest_step (b k : Nat) : restN b k * 2 % 65536 = restN b (k + 1) := by
  unfold restN
  rw [show 8 + (k + 1) = (8 + k) + 1 by omega, Nat.pow_succ, ← Nat.mul_assoc]
  generalize b * 2 ^ (8 + k) = x
  omega
theorem rest_top {b k : Nat} (hb : b < 256) (hk : k < 8) : restN b k / 32768 = bitN b k := by
  unfold restN bitN
  have h : k = 0 ∨ k = 1 ∨ k = 2 ∨ k = 3 ∨ k = 4 ∨ k = 5 ∨ k = 6 ∨ k = 7 := by omega
  rcases h with rfl | rfl | rfl | rfl | rfl | rfl | rfl | rfl <;> simp only [Nat.reduceAdd, Nat.reduceSub, Nat.reducePow] <;> omega
theorem rnd_all {s b : Nat} (hs : s < 65536) (hb : b < 256) : ∀ k, k ≤ 8 → rndK k (s ^^^ (b * 256)) = byteR s b k ^^^ restN b k
  | 0, _ => by
    show s ^^^ (b * 256) = s ^^^ restN b 0
    congr 1
    unfold restN
    simp only [Nat.add_zero, Nat.reducePow]
    omega
  | k + 1, h => by
    have ih := rnd_all hs hb k (by omega)
    rw [rndK, ih, rnd_xor (byteR_lt hs k) (by unfold restN; exact Nat.mod_lt _ (by omega)), rest_top hb (by omega), rest_step]
    rfl
theorem step_eq {s b : Nat} (hs : s < 65536) (hb : b < 256) : rndK 8 (s ^^^ (b * 256)) = byteR s b 8 := by
  rw [rnd_all hs hb 8 (Nat.le_refl _)]
  have : restN b 8 = 0 := by
    unfold restN
    simp only [Nat.reduceAdd, Nat.reducePow]
    omega
  rw [this, Nat.xor_zero]
/-! the program's -/
theorem Tryz.crcStep (s b : Nat) (L : List HP) (hs : s < 65536) (hb : b < 256) : Con Tryz.prog 136 [.int .i64 s, .int .i64 b] L (Is (.int .i64 (byteR s b 8 : Nat)) L) := by
  have h0 := xor_nat (a := s) (b := b * 256) hs (by omega)
  have h0' : bits .xor .i64 (s : Int) ((b : Int) * 256) = ((s ^^^ (b * 256) : Nat) : Int) := by
    rw [← h0]
    congr 1
  have h0'' : bits .xor .i64 ((s : Int) % 65536) ((b : Int) % 256 * 256) = ((s ^^^ (b * 256) : Nat) : Int) := by
    rw [← h0']
    congr 1 <;> omega
  have hm : s ^^^ (b * 256) < 65536 := Nat.xor_lt_two_pow (n := 16) hs (by omega)
  rw [← step_eq hs hb]
  generalize s ^^^ (b * 256) = m at *
  have e1 : ((s : Int) % 65536) = s := by omega
  have e2 : ((b : Int) % 256) = b := by omega
  refine con_of Tryz.tysOk Tryz.func136 rfl rfl ?_
  conv => whnf
  repeat' (first
    | (first | ((with_reducible refine Bt.low8 ?_ ?_); (focus (first | assumption | omega)); conv => whnf) | ((with_reducible refine Bt.low16 ?_ ?_); (focus (first | assumption | omega)); conv => whnf) | ((first | refine Bt.is h0' ?_ | refine Bt.is h0'' ?_); conv => whnf))
    | ((with_reducible refine Ar.shl8 ?_ ?_); (focus omega); conv => whnf)
    | ((with_reducible refine Nd.mk ?_ ?_); (focus (first | omega | rfl | assumption | (simp; done))); conv => whnf))
  conv => whnf
  refine Lp.by2 Tryz.tysOk [12, 0] (fun (k : Nat) (x : Nat) => [.int .i64 k, .int .i64 x]) (fun k x => L) (fun k x => k ≤ 8 ∧ x = rndK k m) (fun k x => 8 - k) (0) (m) (by kernel_rfl) (by (exact Ent.rfl)) (⟨by omega, rfl⟩) ?_
  rintro k x ⟨g1, g2⟩
  conv => whnf
  repeat (intro _; conv => whnf)
  have hx : x < 65536 := by rw [g2]; exact rndK_lt hm k
  by_cases hk : k < 8
  · have ha := and_nat (a := x) (b := 32768) hx (by decide)
    rw [and_top hx] at ha
    have ha' : bits .and .i64 (x : Int) 32768 = ((32768 * (x / 32768) : Nat) : Int) := ha
    have hr : rndN x = rndK (k + 1) m := by rw [g2]; rfl
    unfold rndN at hr
    have hd : x * 2 % 65536 < 65536 := Nat.mod_lt _ (by omega)
    have hxo := xor_nat (a := x * 2 % 65536) (b := 4129) hd (by decide)
    have hxo' : bits .xor .i64 ((x : Int) * 2 % 65536) 4129 = (((x * 2 % 65536) ^^^ 4129 : Nat) : Int) := by
      rw [← hxo]
      congr 1
    clear g2 h0 h0'
    by_cases ht : x / 32768 ≠ 0
    · rw [if_pos ht] at hr
      have h1 : x / 32768 = 1 := by omega
      rw [h1] at ha'
      have ha' : bits .and .i64 (x : Int) 32768 = 32768 := ha'
      conv => whnf
      repeat' (first
        | (first | ((with_reducible refine Br.dt ?_ ?_); (focus (first | assumption | omega)); conv => whnf) | ((with_reducible refine Br.ndt ?_ ?_); (focus (first | assumption | omega)); conv => whnf))
        | (first | ((with_reducible refine Bt.low16 ?_ ?_); (focus (first | assumption | omega)); conv => whnf) | ((refine Bt.is ha' ?_); conv => whnf) | ((refine Bt.is hxo' ?_); conv => whnf))
        | ((with_reducible refine Ar.i64 ?_ ?_); (focus omega); conv => whnf)
        | ((with_reducible refine Nd.mk ?_ ?_); (focus (first | omega | rfl | assumption | (simp; done))); conv => whnf)
        | ((refine Ar.shl1 (by omega) ?_); conv => whnf))
      all_goals first | (exfalso; omega) | exact ⟨k + 1, (x * 2 % 65536) ^^^ 4129, by kernel_rfl, by (exact Ent.rfl), ⟨by omega, hr⟩, by omega⟩
    · rw [if_neg ht] at hr
      have h1 : x / 32768 = 0 := by omega
      rw [h1] at ha'
      have ha' : bits .and .i64 (x : Int) 32768 = 0 := ha'
      have hz : (x : Int) * 2 % 65536 = ((x * 2 % 65536 : Nat) : Int) := by omega
      conv => whnf
      repeat' (first
        | (first | ((with_reducible refine Br.dt ?_ ?_); (focus (first | assumption | omega)); conv => whnf) | ((with_reducible refine Br.ndf ?_ ?_); (focus (first | assumption | omega)); conv => whnf))
        | (first | ((with_reducible refine Bt.low16 ?_ ?_); (focus (first | assumption | omega)); conv => whnf) | ((refine Bt.is ha' ?_); conv => whnf))
        | ((with_reducible refine Ar.i64 ?_ ?_); (focus omega); conv => whnf)
        | ((with_reducible refine Nd.mk ?_ ?_); (focus (first | omega | rfl | assumption | (simp; done))); conv => whnf)
        | ((refine Ar.shl1 (by omega) ?_); conv => whnf)
        | ((rw [hz]); conv => whnf))
      all_goals first | (exfalso; omega) | exact ⟨k + 1, x * 2 % 65536, by kernel_rfl, by (exact Ent.rfl), ⟨by omega, hr⟩, by omega⟩
  · have e : k = 8 := by omega
    subst e
    subst g2
    conv => whnf
    repeat' ((with_reducible refine Br.df ?_ ?_); (focus (first | assumption | omega)); conv => whnf)
    all_goals first | (exfalso; omega) | (refine Is.ent ?_ ?_; (focus (exact Ent.rfl)); (exact Is.rfl))
theorem sumR_take {s : ByteArray} {k m : Nat} (hk : k < s.size) : sumR m (s.data.toList.take (k + 1)) = byteR (sumR m (s.data.toList.take k)) (sAt s k).toNat 8 := by
  have hl := size_list s
  rw [List.take_add_one, List.getElem?_eq_getElem (by omega)]
  have e : s.data.toList[k]'(by omega) = sAt s k := by
    show _ = s.data.toList.getD k 0
    rw [List.getD_eq_getElem?_getD, List.getElem?_eq_getElem (by omega)]
    rfl
  rw [e]
  unfold sumR
  rw [List.foldl_append]
  rfl
theorem Tryz.crcSum (s : ByteArray) (L : List HP) (hs : s.size ≤ 1000000) : Con Tryz.prog 77 [.string s] L (Is (.int .i64 (sumR 65535 s.data.toList : Nat)) L) := by
  refine con_of Tryz.tysOk Tryz.func77 rfl rfl ?_
  conv => whnf
  repeat' skip
  conv => whnf
  refine Lp.by2 Tryz.tysOk [7, 3] (fun (k : Nat) (x : Nat) => [.int .i64 k, .int .i64 x]) (fun k x => L) (fun k x => k ≤ s.size ∧ x = sumR 65535 (s.data.toList.take k)) (fun k x => s.size - k) (0) (65535) (by kernel_rfl) (by (exact Ent.rfl)) (⟨by omega, rfl⟩) ?_
  rintro k x ⟨g1, g2⟩
  conv => whnf
  repeat (intro _; conv => whnf)
  have hx : x < 65536 := by rw [g2]; exact sumR_lt _ _ (by decide)
  by_cases hk : k < s.size
  · have hst := sumR_take (m := 65535) hk
    rw [← g2] at hst
    have hu := u8_lt (sAt s k)
    have hc := fun L => Tryz.crcStep x (sAt s k).toNat L hx (by omega)
    clear g2
    conv => whnf
    repeat' (first
      | ((with_reducible refine Br.dt ?_ ?_); (focus (first | assumption | omega)); conv => whnf)
      | (first | ((with_reducible refine Ar.i64b ?_); conv => whnf) | ((with_reducible refine Ar.i64 ?_ ?_); (focus omega); conv => whnf))
      | ((with_reducible refine SIx.nat ?_ ?_); (focus (omega)); conv => whnf)
      | ((with_reducible refine Cl.is (hc _) ?_); conv => whnf))
    all_goals first | (exfalso; omega) | exact ⟨k + 1, byteR x (sAt s k).toNat 8, by kernel_rfl, by (exact Ent.rfl), ⟨by omega, hst.symm⟩, by omega⟩
  · rw [List.take_of_length_le (by rw [size_list]; omega)] at g2
    subst g2
    conv => whnf
    repeat' ((with_reducible refine Br.df ?_ ?_); (focus (first | assumption | omega)); conv => whnf)
    all_goals first | (exfalso; omega) | (refine Is.ent ?_ ?_; (focus (exact Ent.rfl)); (exact Is.rfl))
def sealB (s : ByteArray) : ByteArray := s ++ ⟨#[u8of ((sumR 65535 s.data.toList / 256 : Nat) : Int), u8of ((sumR 65535 s.data.toList % 256 : Nat) : Int)]⟩
theorem Tryz.bitsHigh (n : Nat) (L : List HP) (h : n < 65536) : Con Tryz.prog 78 [.int .i64 n] L (Is (.int .i64 (n / 256 : Nat)) L) := by
  have e : (n : Int) / 256 % 256 = ((n / 256 : Nat) : Int) := by omega
  refine con_of Tryz.tysOk Tryz.func78 rfl rfl ?_
  conv => whnf
  repeat' (first
    | (first | ((with_reducible refine Bt.low8 ?_ ?_); (focus (first | assumption | omega)); conv => whnf) | ((with_reducible refine Bt.shr8 ?_); conv => whnf))
    | ((with_reducible refine Nd.mk ?_ ?_); (focus (first | omega | rfl | assumption | (simp; done))); conv => whnf)
    | ((rw [e]); conv => whnf))
  all_goals first | (refine Is.ent ?_ ?_; (focus (exact Ent.rfl)); (exact Is.rfl)) | (refine Is.int ?_; omega)
theorem Tryz.bitsLow (n : Nat) (L : List HP) (h : n < 65536) : Con Tryz.prog 79 [.int .i64 n] L (Is (.int .i64 (n % 256 : Nat)) L) := by
  refine con_of Tryz.tysOk Tryz.func79 rfl rfl ?_
  conv => whnf
  repeat' ((with_reducible refine Bt.low8 ?_ ?_); (focus (first | assumption | omega)); conv => whnf)
  all_goals first | (refine Is.ent ?_ ?_; (focus (exact Ent.rfl)); (exact Is.rfl)) | (refine Is.int ?_; omega)
theorem Tryz.crcSeal (s : ByteArray) (L : List HP) (hs : s.size ≤ 1000000) : Con Tryz.prog 36 [.string s] L (Is (.string (sealB s)) L) := by
  have hc := fun L => Tryz.crcSum s L hs
  have hx := sumR_lt s.data.toList 65535 (by decide)
  unfold sealB
  generalize sumR 65535 s.data.toList = n at *
  have hh := fun L => Tryz.bitsHigh n L hx
  have hl := fun L => Tryz.bitsLow n L hx
  have h2 : (⟨#[u8of ((n / 256 : Nat) : Int), u8of ((n % 256 : Nat) : Int)]⟩ : ByteArray).size = 2 := rfl
  refine con_of Tryz.tysOk Tryz.func36 rfl rfl ?_
  conv => whnf
  repeat' (first
    | ((with_reducible refine Ar.u8b ?_); conv => whnf)
    | ((with_reducible refine Nd.mk ?_ ?_); (focus (first | omega | rfl | assumption | (simp; done))); conv => whnf)
    | ((with_reducible refine Nc.go' (fun _ => ?_)); conv => whnf)
    | (first | ((with_reducible refine Cl.is (hc _) ?_); conv => whnf) | ((with_reducible refine Cl.is (hh _) ?_); conv => whnf) | ((with_reducible refine Cl.is (hl _) ?_); conv => whnf))
    | ((with_reducible refine (?_ : Sm _ (convert _ _ _) _ _)); ((apply (Sm.b2s Tryz.tysOk)); (rotate_left; (focus (exact Rd.ptc 0 rfl [_, _] rfl)); rotate_right; (focus rfl)); (focus rfl); (focus rfl); (focus rfl); (focus rfl); (focus rfl); (focus rfl); conv => whnf)))
  all_goals first | (exfalso; omega) | (refine Is.ent ?_ ?_; (focus (refine FEnt.ent ?_; (repeat (first | exact FEnt.rfl | refine FEnt.drop ?_)); done)); (exact Is.rfl))
theorem Tryz.bit08 (b : UInt8) (i : Nat) (L : List HP) (hi : i < 8) : Con Tryz.prog 88 [.int .u8 b.toNat, .int .i64 i] L (Is (.int .i64 (bitN b.toNat i : Nat)) L) := by
  have hu := u8_lt b
  refine con_of Tryz.tysOk Tryz.func88 rfl rfl ?_
  conv => whnf
  repeat' ((with_reducible refine Ar.i64b ?_); conv => whnf)
  conv => whnf
  refine Lp.by2 Tryz.tysOk [6, 5] (fun (k : Nat) (x : Nat) => [.int .i64 k, .int .i64 x]) (fun k x => L) (fun k x => (i ≤ k ∧ k ≤ 7) ∧ x = b.toNat / 2 ^ (7 - k) ∧ x < 256) (fun k x => k) (7) (b.toNat) (by kernel_rfl) (by (exact Ent.rfl)) (⟨⟨by omega, by omega⟩, by simp, by omega⟩) ?_
  rintro k x ⟨⟨g1, g2⟩, g3, g4⟩
  conv => whnf
  repeat (intro _; conv => whnf)
  have td : (x : Int).tdiv 2 = ((x / 2 : Nat) : Int) := by rw [Int.tdiv_eq_ediv_of_nonneg (by omega)]; rfl
  by_cases hk : i < k
  · have hs : x / 2 = b.toNat / 2 ^ (7 - (k - 1)) := by
      rw [g3, Nat.div_div_eq_div_mul, ← Nat.pow_succ]
      congr 2
      omega
    have hk1 : (k : Int) - 1 = ((k - 1 : Nat) : Int) := by omega
    clear g3
    conv => whnf
    repeat' (first
      | ((with_reducible refine Br.dt ?_ ?_); (focus (first | assumption | omega)); conv => whnf)
      | ((with_reducible refine Ar.i64 ?_ ?_); (focus omega); conv => whnf)
      | ((with_reducible refine Nd.mk ?_ ?_); (focus (first | omega | rfl | assumption | (simp; done))); conv => whnf)
      | ((rw [td]); conv => whnf)
      | ((rw [hk1]); conv => whnf))
    all_goals first | (exfalso; omega) | exact ⟨k - 1, x / 2, by kernel_rfl, by (exact Ent.rfl), ⟨⟨by omega, by omega⟩, hs, by omega⟩, by omega⟩
  · have hk2 : k = i := by omega
    subst hk2
    have tm : (x : Int).tmod 2 = ((x % 2 : Nat) : Int) := by rw [Int.tmod_eq_emod_of_nonneg (by omega)]; rfl
    have e : bitN b.toNat k = x % 2 := by unfold bitN; rw [← g3]
    rw [e]
    clear g3 e
    conv => whnf
    repeat' (first
      | ((with_reducible refine Br.df ?_ ?_); (focus (first | assumption | omega)); conv => whnf)
      | ((with_reducible refine Nd.mk ?_ ?_); (focus (first | omega | rfl | assumption | (simp; done))); conv => whnf)
      | ((rw [tm]); conv => whnf))
    all_goals first | (exfalso; omega) | (refine Is.ent ?_ ?_; (focus (exact Ent.rfl)); (exact Is.rfl))
theorem Tryz.push08 (s b : Nat) (L : List HP) (hs : s < 65536) (hb : b < 2) : Con Tryz.prog 87 [.int .i64 s, .int .i64 b] L (Is (.int .i64 (pushN s b : Nat)) L) := by
  have t1 : (s : Int).tdiv 32768 = ((s / 32768 : Nat) : Int) := by rw [Int.tdiv_eq_ediv_of_nonneg (by omega)]; rfl
  have t2 : ((s : Int) * 2).tmod 65536 = ((s * 2 % 65536 : Nat) : Int) := by rw [Int.tmod_eq_emod_of_nonneg (by omega)]; rfl
  have hd : s * 2 % 65536 < 65536 := Nat.mod_lt _ (by omega)
  have hxo := xor_nat (a := s * 2 % 65536) (b := 4129) hd (by decide)
  have hxo' : bits .xor .i64 ((s * 2 % 65536 : Nat) : Int) 4129 = (((s * 2 % 65536) ^^^ 4129 : Nat) : Int) := hxo
  unfold pushN
  by_cases h : s / 32768 ≠ b
  · rw [if_pos h]
    refine con_of Tryz.tysOk Tryz.func87 rfl rfl ?_
    conv => whnf
    repeat' (first
      | ((with_reducible refine Br.ndt ?_ ?_); (focus (first | assumption | omega)); conv => whnf)
      | ((refine Bt.is hxo' ?_); conv => whnf)
      | ((with_reducible refine Ar.i64 ?_ ?_); (focus omega); conv => whnf)
      | ((with_reducible refine Nd.mk ?_ ?_); (focus (first | omega | rfl | assumption | (simp; done))); conv => whnf))
    all_goals first | (exfalso; omega) | (refine Is.ent ?_ ?_; (focus (exact Ent.rfl)); (exact Is.rfl))
  · rw [if_neg h]
    refine con_of Tryz.tysOk Tryz.func87 rfl rfl ?_
    conv => whnf
    repeat' (first
      | ((with_reducible refine Br.ndf ?_ ?_); (focus (first | assumption | omega)); conv => whnf)
      | ((with_reducible refine Ar.i64 ?_ ?_); (focus omega); conv => whnf)
      | ((with_reducible refine Nd.mk ?_ ?_); (focus (first | omega | rfl | assumption | (simp; done))); conv => whnf)
      | ((rw [t2]); conv => whnf))
    all_goals first | (exfalso; omega) | (refine Is.ent ?_ ?_; (focus (exact Ent.rfl)); (exact Is.rfl))
theorem byteR_step (s b k : Nat) : byteR s b (k + 1) = pushN (byteR s b k) (bitN b k) := rfl
theorem Tryz.from08 (s : ByteArray) (L : List HP) (hs : s.size ≤ 1000000) : Con Tryz.prog 41 [.int .i64 65535, .string s] L (Is (.int .i64 (sumR 65535 s.data.toList : Nat)) L) := by
  refine con_of Tryz.tysOk Tryz.func41 rfl rfl ?_
  conv => whnf
  repeat' skip
  conv => whnf
  refine Lp.by3 Tryz.tysOk [5, 0, 6] (fun (k : Nat) (x : Nat) (v : Value) => [.int .i64 k, .int .i64 x, v]) (fun k x v => L) (fun k x v => k ≤ s.size ∧ x = sumR 65535 (s.data.toList.take k)) (fun k x v => s.size - k) (0) (65535) (undef) (by kernel_rfl) (by (exact Ent.rfl)) (⟨by omega, rfl⟩) ?_
  rintro k x v ⟨g1, g2⟩
  conv => whnf
  repeat (intro _; conv => whnf)
  have hx : x < 65536 := by rw [g2]; exact sumR_lt _ _ (by decide)
  by_cases hk : k < s.size
  · have hst := sumR_take (m := 65535) hk
    rw [← g2] at hst
    have hu := u8_lt (sAt s k)
    clear g2
    conv => whnf
    repeat' ((with_reducible refine Br.dt ?_ ?_); (focus (first | assumption | omega)); conv => whnf)
    conv => whnf
    refine Lp.by2 Tryz.tysOk [6, 0] (fun (j : Nat) (y : Nat) => [.int .i64 j, .int .i64 y]) (fun j y => L) (fun j y => j ≤ 8 ∧ y = byteR x (sAt s k).toNat j) (fun j y => 8 - j) (0) (x) (by kernel_rfl) (by (exact Ent.rfl)) (⟨by omega, rfl⟩) ?_
    rintro j y ⟨u1, u2⟩
    conv => whnf
    repeat (intro _; conv => whnf)
    have hy : y < 65536 := by rw [u2]; exact byteR_lt hx j
    by_cases hj : j < 8
    · have hb := fun L => Tryz.bit08 (sAt s k) j L hj
      have hb2 : bitN (sAt s k).toNat j < 2 := Nat.mod_lt _ (by omega)
      have hp := fun L => Tryz.push08 y (bitN (sAt s k).toNat j) L hy hb2
      have e := byteR_step x (sAt s k).toNat j
      rw [← u2] at e
      clear u2
      conv => whnf
      repeat' (first
        | ((with_reducible refine Br.dt ?_ ?_); (focus (first | assumption | omega)); conv => whnf)
        | ((with_reducible refine Ar.i64 ?_ ?_); (focus omega); conv => whnf)
        | ((with_reducible refine SIx.nat ?_ ?_); (focus (omega)); conv => whnf)
        | (first | ((with_reducible refine Cl.is (hb _) ?_); conv => whnf) | ((with_reducible refine Cl.is (hp _) ?_); conv => whnf)))
      all_goals first | (exfalso; omega) | exact ⟨j + 1, pushN y (bitN (sAt s k).toNat j), by kernel_rfl, by (exact Ent.rfl), ⟨by omega, e.symm⟩, by omega⟩
    · have ej : j = 8 := by omega
      subst ej
      rw [← hst] at u2
      conv => whnf
      repeat' (first
        | ((with_reducible refine Br.df ?_ ?_); (focus (first | assumption | omega)); conv => whnf)
        | ((with_reducible refine Ar.i64 ?_ ?_); (focus omega); conv => whnf))
      all_goals first | (exfalso; omega) | exact ⟨k + 1, y, .int .i64 (8 : Nat), by kernel_rfl, by (exact Ent.rfl), ⟨by omega, u2⟩, by omega⟩
  · rw [List.take_of_length_le (by rw [size_list]; omega)] at g2
    subst g2
    conv => whnf
    repeat' ((with_reducible refine Br.df ?_ ?_); (focus (first | assumption | omega)); conv => whnf)
    all_goals first | (exfalso; omega) | (refine Is.ent ?_ ?_; (focus (exact Ent.rfl)); (exact Is.rfl))
theorem Tryz.sum08 (s : ByteArray) (L : List HP) (hs : s.size ≤ 1000000) : Con Tryz.prog 16 [.string s] L (Is (.int .i64 (sumR 65535 s.data.toList : Nat)) L) := by
  have hc := fun L => Tryz.from08 s L hs
  refine con_of Tryz.tysOk Tryz.func16 rfl rfl ?_
  conv => whnf
  repeat' ((with_reducible refine Cl.is (hc _) ?_); conv => whnf)
  all_goals first | (exfalso; omega) | (refine Is.ent ?_ ?_; (focus (exact Ent.rfl)); (exact Is.rfl))
theorem Tryz.seal08 (s : ByteArray) (L : List HP) (hs : s.size ≤ 1000000) : Con Tryz.prog 5 [.string s] L (Is (.string (sealB s)) L) := by
  have hc := fun L => Tryz.sum08 s L hs
  have hx := sumR_lt s.data.toList 65535 (by decide)
  unfold sealB
  generalize sumR 65535 s.data.toList = n at *
  have t1 : (n : Int).tdiv 256 = ((n / 256 : Nat) : Int) := by rw [Int.tdiv_eq_ediv_of_nonneg (by omega)]; rfl
  have t2 : (n : Int).tmod 256 = ((n % 256 : Nat) : Int) := by rw [Int.tmod_eq_emod_of_nonneg (by omega)]; rfl
  have h2 : (⟨#[u8of ((n / 256 : Nat) : Int), u8of ((n % 256 : Nat) : Int)]⟩ : ByteArray).size = 2 := rfl
  refine con_of Tryz.tysOk Tryz.func5 rfl rfl ?_
  conv => whnf
  repeat' (first
    | (first | ((with_reducible refine Ar.u8b ?_); conv => whnf) | ((with_reducible refine Ar.i64 ?_ ?_); (focus omega); conv => whnf))
    | ((with_reducible refine Nd.mk ?_ ?_); (focus (first | omega | rfl | assumption | (simp; done))); conv => whnf)
    | ((with_reducible refine Nc.go' (fun _ => ?_)); conv => whnf)
    | ((with_reducible refine Cl.is (hc _) ?_); conv => whnf)
    | ((with_reducible refine (?_ : Sm _ (convert _ _ _) _ _)); ((apply (Sm.b2s Tryz.tysOk)); (rotate_left; (focus (exact Rd.ptc 0 rfl [_, _] rfl)); rotate_right; (focus rfl)); (focus rfl); (focus rfl); (focus rfl); (focus rfl); (focus rfl); (focus rfl); conv => whnf))
    | ((rw [t1]); conv => whnf)
    | ((rw [t2]); conv => whnf))
  all_goals first | (exfalso; omega) | (refine Is.ent ?_ ?_; (focus (refine FEnt.ent ?_; (repeat (first | exact FEnt.rfl | refine FEnt.drop ?_)); done)); (exact Is.rfl))
end Go.Proofs
