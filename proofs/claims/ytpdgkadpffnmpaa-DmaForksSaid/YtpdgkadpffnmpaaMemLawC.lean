/- The memory's laws: forks, sizes, none at all. -/
import Derived.Test.YtpdgkadpffnmpaaMemLawB
import Derived.Test.YtpdgkadpffnmpaaMemDiff
set_option linter.all false
namespace Go.Proofs
open Go.Eng
set_option linter.unusedVariables false
set_option maxRecDepth 100000
set_option maxHeartbeats 800000
theorem Con.newEq {P : Program} {f : FuncId} {args : List Value} {α : Type} {E : Enc α} {t : TypeId} {xs ys : List α} {L M : List HP} (h : xs = ys) (c : Con P f args L (New E t xs M)) : Con P f args L (New E t ys M) := h ▸ c
theorem Try.refWith1 (a a' : Option Addr) (c c' : Nat) (n : Int) (xs : List UInt8) (L : List HP) (hm : xs.length ≤ 1000000) (h : 0 < xs.length) (hr : Rd intE L a (ints xs)) (hr' : Rd intE L a' [n]) (hn : I64 n) :
    Con Try.prog 32 [.slice a (ints xs).length c, i64V 0, .slice a' 1 c'] L (New intE 3 (ints (xs.set 0 (u8of n))) L) := by
  have := Try.refWithB a a' c c' 0 0 xs [u8of n] [n] L hm rfl (by simp; omega) hr hr' (by simpa using hn) (by simp [ints, low, u8of_int])
  rwa [lay_one h] at this
theorem merge_nil : mergeF [] = [] := mergeF_eq canon_nil fun n => Iff.rfl
theorem runF_none {n : Int} {p : Int → Prop} (h : ∀ m, 0 ≤ m → m < n → ¬ p m) : runF n p = [] :=
  runF_eq ⟨canon_nil, fun m => ⟨fun h => (inS_nil h).elim, fun ⟨h1, h2, h3⟩ => (h m h1 h2 h3).elim⟩⟩
theorem runF_congr {n : Int} {p q : Int → Prop} (h : ∀ m, 0 ≤ m → m < n → (p m ↔ q m)) : runF n p = runF n q :=
  runF_eq ⟨runs_ok.canon, fun m => (runs_ok.same m).trans ⟨fun ⟨h1, h2, h3⟩ => ⟨h1, h2, (h m h1 h2).2 h3⟩, fun ⟨h1, h2, h3⟩ => ⟨h1, h2, (h m h1 h2).1 h3⟩⟩⟩
theorem unl_self {xs : List UInt8} : runF (max xs.length xs.length : Nat) (unl 0 xs xs) = [] :=
  runF_none fun m h1 h2 h => h ⟨by omega, by omega, rfl⟩
theorem unl_ints {xs ys : List UInt8} {n : Int} : runF n (unl 0 (ints xs) (ints ys)) = runF n (unl 0 xs ys) := by
  refine runF_congr fun m _ _ => ?_
  unfold unl
  rw [ints_len, ints_len, ints_getD, ints_getD]
  constructor
  · intro h ⟨h1, h2, h3⟩; exact h ⟨h1, h2, by rw [bAt, bAt, h3]⟩
  · intro h ⟨h1, h2, h3⟩; exact h ⟨h1, h2, UInt8.toNat_inj.1 (Int.ofNat_inj.1 h3)⟩
theorem unl_comm {α : Type} {d : α} {xs ys : List α} {n : Int} : runF n (unl d xs ys) = runF n (unl d ys xs) := by
  refine runF_congr fun m _ _ => ?_
  unfold unl
  constructor
  · intro h ⟨h1, h2, h3⟩; exact h ⟨h2, h1, h3.symm⟩
  · intro h ⟨h1, h2, h3⟩; exact h ⟨h2, h1, h3.symm⟩
end Go.Proofs
