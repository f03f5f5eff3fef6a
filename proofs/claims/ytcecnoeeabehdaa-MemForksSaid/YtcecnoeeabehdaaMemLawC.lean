/- The memory's laws: forks, sizes, none at all. -/
import Derived.Test.YtcecnoeeabehdaaMemLawB
import Derived.Test.YtcecnoeeabehdaaMemDiff
set_option linter.all false
namespace Go.Proofs
open Go.Eng
set_option linter.unusedVariables false
set_option maxRecDepth 100000
set_option maxHeartbeats 800000
theorem Con.newEq {P : Program} {f : FuncId} {args : List Value} {α : Type} {E : Enc α} {t : TypeId} {xs ys : List α} {L M : List HP} (h : xs = ys) (c : Con P f args L (New E t xs M)) : Con P f args L (New E t ys M) := h ▸ c
theorem Try.refWith1 (a a' : Option Addr) (c c' : Nat) (n : Int) (xs : List UInt8) (L : List HP) (hm : xs.length ≤ 1000000) (h : 0 < xs.length) (hr : Rd intE L a (ints xs)) (hr' : Rd intE L a' [n]) (hn : I64 n) :
    Con Try.prog 16 [.slice a (ints xs).length c, i64V 0, .slice a' 1 c'] L (New intE 3 (ints (xs.set 0 (u8of n))) L) := by
  have := Try.refWithB a a' c c' 0 0 xs [u8of n] [n] L hm rfl (by simp; omega) hr hr' (by simpa using hn) (by simp [ints, low, u8of_int])
  rwa [lay_one h] at this
theorem merge_nil : mergeF [] = [] := mergeF_eq canon_nil fun n => Iff.rfl
theorem runF_none {n : Int} {p : Int → Prop} (h : ∀ m, 0 ≤ m → m < n → ¬ p m) : runF n p = [] :=
  runF_eq ⟨canon_nil, fun m => ⟨fun h => (inS_nil h).elim, fun ⟨h1, h2, h3⟩ => (h m h1 h2 h3).elim⟩⟩
theorem runF_congr {n : Int} {p q : Int → Prop} (h : ∀ m, 0 ≤ m → m < n → (p m ↔ q m)) : runF n p = runF n q :=
  runF_eq ⟨runs_ok.canon, fun m => (runs_ok.same m).trans ⟨fun ⟨h1, h2, h3⟩ => ⟨h1, h2, (h m h1 h2).2 h3⟩, fun ⟨h1, h2, h3⟩ => ⟨h1, h2, (h m h1 h2).1 h3⟩⟩⟩
theorem unl_self {xs : List UInt8} : runF (max xs.length xs.length : Nat) (unl 0 xs xs) = [] :=
  runF_none fun m h1 h2 h => h ⟨by omega, by omega, rfl⟩
theorem unl_ints {xs ys : List UInt8} {n : Int} : runF n (unl 0 (ints xs) (ints ys)) = runF n (unl 0 xs ys) := by
  refine runF_congr fun m _ _ => ?_
  unfold unl
  rw [ints_len, ints_len, ints_getD, ints_getD]
  constructor
  · intro h ⟨h1, h2, h3⟩; exact h ⟨h1, h2, by rw [bAt, bAt, h3]⟩
  · intro h ⟨h1, h2, h3⟩; exact h ⟨h1, h2, UInt8.toNat_inj.1 (Int.ofNat_inj.1 h3)⟩
theorem unl_comm {α : Type} {d : α} {xs ys : List α} {n : Int} : runF n (unl d xs ys) = runF n (unl d ys xs) := by
  refine runF_congr fun m _ _ => ?_
  unfold unl
  constructor
  · intro h ⟨h1, h2, h3⟩; exact h ⟨h2, h1, h3.symm⟩
  · intro h ⟨h1, h2, h3⟩; exact h ⟨h2, h1, h3.symm⟩
theorem Try.memNilLaw (p n : Int) (s : ByteArray) (L : List HP) (hp : I64 p) (hn : I64 n) (hs : s.size ≤ 9223372036854775807) : Con Try.prog 6 [i64V p, i64V n, .string s] L (Is (.bool true) L) := by
  have hm : (mergeF []).length = 0 := by rw [merge_nil]; rfl
  refine con_of Try.tysOk Try.func6 rfl rfl ?_
  conv => whnf
  repeat' (first
    | (first | ((with_reducible refine Br.tt ?_); conv => whnf) | ((with_reducible refine Br.nn ?_); conv => whnf) | ((with_reducible refine Br.dt ?_ ?_); (focus (first | assumption | omega)); conv => whnf))
    | ((with_reducible refine Nd.mk ?_ ?_); (focus (first | omega | rfl | assumption | (simp; done))); conv => whnf)
    | (first | ((with_reducible refine Cl.is (Try.memGetNil _ _) ?_); conv => whnf) | ((with_reducible refine Cl.is (Try.memGet2Nil _ _) ?_); conv => whnf) | ((with_reducible refine Cl.is (Try.memTextNil _ _ _) ?_); conv => whnf) | ((with_reducible refine Cl.is (Try.memLive _) ?_); conv => whnf) | ((with_reducible refine Cl.is (Try.memSetNil _ _ _) ?_); conv => whnf) | ((with_reducible refine Cl.is (Try.memSet2Nil _ _ _) ?_); conv => whnf) | ((with_reducible refine Cl.is (Try.memPutNil _ _ _) ?_); conv => whnf) | ((with_reducible refine Cl.is (Try.memSizeNil _) ?_); conv => whnf) | ((with_reducible refine Cl.is (Try.memForkNil _) ?_); conv => whnf) | ((with_reducible refine Cl.exs (Try.memNew 0 _ ⟨by omega, by omega⟩) (fun b _ => ?_)); conv => whnf))
    | ((refine Cl.new (Try.memDiffNil _ _) (fun _ _ _ _ => ?_)); conv => whnf))
  all_goals (refine Is.ent (by (refine FEnt.ent ?_; (repeat (first | exact FEnt.rfl | refine FEnt.drop ?_)); done)) (Is.ttr ?_); omega)
theorem Try.memSizesLaw (a q n : Int) (L : List HP) (ha : I64 a) (hb : I64 q) (hn : I64 n) : Con Try.prog 4 [i64V a, i64V q, i64V n] L (Is (.bool true) L) := by
  by_cases hg : a > 400 ∨ q > 400
  · have hz : ((zeros (min (max (max a q) 0) 16384).toNat).length : Int) = min (max a q) 16384 := by rw [List.length_replicate]; omega
    have hz2 : ((zeros (min (max (max a q) 0) 16384).toNat).length : Int) = min (if a ≤ q then q else a) 16384 := by rw [hz]; split <;> omega
    rcases hg with hg | hg
    all_goals
      refine con_of Try.tysOk Try.func4 rfl rfl ?_
      conv => whnf
      repeat' (first
        | (first | ((with_reducible refine Br.tt ?_); conv => whnf) | ((with_reducible refine Br.ff ?_); conv => whnf) | ((with_reducible refine Br.dt ?_ ?_); (focus (first | assumption | omega)); conv => whnf))
        | (first | ((with_reducible refine Cl.is (Try.memLive _) ?_); conv => whnf) | ((with_reducible refine Cl.exs (Try.memNew _ _ ⟨by omega, by omega⟩) (fun b1 _ => ?_)); conv => whnf) | ((refine Cl.isAt 0 rfl (Try.memSize _ _ _) ?_); conv => whnf))
        | ((with_reducible refine Br.ds (fun _ => ?_) (fun _ => ?_) ) <;> (conv => whnf)))
      all_goals (refine Is.ent (by (refine FEnt.ent ?_; (repeat (first | exact FEnt.rfl | refine FEnt.drop ?_)); done)) (Is.ttr ?_); exact hz)
  · have hX := newB_len (size := a) (by omega)
    have hY := newB_len (size := q) (by omega)
    have hiX := ints_len (newB a)
    have hiY := ints_len (newB q)
    have hXl : ((newB a).length : Int) = max a 0 := by rw [List.length_replicate]; omega
    by_cases h1 : 1 ≤ a
    · have hk : 0 + 1 ≤ (newB a).length := by omega
      have hlay : lay (newB a) 0 [u8of n] = (newB a).set 0 (u8of n) := lay_one (by omega)
      have hsl : ((newB a).set 0 (u8of n)).length = (newB a).length := by simp
      have hiS := ints_len ((newB a).set 0 (u8of n))
      have e1 : runF (max ((newB a).set 0 (u8of n)).length (newB q).length : Nat) (unl 0 ((newB a).set 0 (u8of n)) (newB q)) = runF (max (ints ((newB a).set 0 (u8of n))).length (ints (newB q)).length : Nat) (unl 0 (ints ((newB a).set 0 (u8of n))) (ints (newB q))) := by rw [hiS, hiY, unl_ints]
      have e2 : runF (max (newB q).length ((newB a).set 0 (u8of n)).length : Nat) (unl 0 (newB q) ((newB a).set 0 (u8of n))) = runF (max (ints ((newB a).set 0 (u8of n))).length (ints (newB q)).length : Nat) (unl 0 (ints ((newB a).set 0 (u8of n))) (ints (newB q))) := by rw [hiS, hiY, unl_ints, unl_comm, Nat.max_comm]
      have hRl : (runF (max (ints ((newB a).set 0 (u8of n))).length (ints (newB q)).length : Nat) (unl 0 (ints ((newB a).set 0 (u8of n))) (ints (newB q)))).length ≤ max (ints ((newB a).set 0 (u8of n))).length (ints (newB q)).length := runs_len runs_ok
      generalize hR : runF (max (ints ((newB a).set 0 (u8of n))).length (ints (newB q)).length : Nat) (unl 0 (ints ((newB a).set 0 (u8of n))) (ints (newB q))) = R at *
      refine con_of Try.tysOk Try.func4 rfl rfl ?_
      have hR0 : R.length ≤ 1000000 := by omega
      conv => whnf
      repeat' (first
        | (first | ((with_reducible refine Br.tt ?_); conv => whnf) | ((with_reducible refine Br.ff ?_); conv => whnf) | ((with_reducible refine Br.dt ?_ ?_); (focus (first | assumption | omega)); conv => whnf) | ((with_reducible refine Br.df ?_ ?_); (focus (first | assumption | omega)); conv => whnf))
        | ((with_reducible refine Nc.go' (fun b => ?_)); conv => whnf)
        | (first | ((with_reducible refine Cl.is (Try.memLive _) ?_); conv => whnf) | ((with_reducible refine Cl.exs (Try.memNew _ _ ⟨by omega, by omega⟩) (fun b1 _ => ?_)); conv => whnf) | ((with_reducible refine Cl.new (Try.refNew _ _ ⟨by omega, by omega⟩) (fun _ _ _ _ => ?_)); conv => whnf) | ((refine Cl.isAt 3 rfl (Try.memSet _ (newB a) 0 _ _ _ (by omega) rfl hk) ?_); conv => whnf) | ((refine Cl.new (Con.newAt (perm_at2 5 4 rfl rfl) (Con.newEq e1 (Try.memDiff _ _ ((newB a).set 0 (u8of n)) (newB q) _ (by omega) (by omega)))) (fun _ _ _ _ => ?_)); conv => whnf) | ((refine Cl.new (Con.newAt (perm_at2 6 6 rfl rfl) (Con.newEq e2 (Try.memDiff _ _ (newB q) ((newB a).set 0 (u8of n)) _ (by omega) (by omega)))) (fun _ _ _ _ => ?_)); conv => whnf))
        | ((refine Cl.new (Try.refWith1 _ _ _ _ _ (newB a) _ (by omega) (by omega) (by ((repeat (first | ((refine Rd.own 2 rfl ?_); (assumption)) | apply Rd.cons)); done)) (by first | exact Rd.ptc 0 rfl [n] rfl | exact Rd.ptc 1 rfl [n] rfl) hn) (fun _ _ _ _ => ?_)); conv => whnf)
        | ((refine Cl.new (Con.newEq hR (Try.refDiff _ _ _ _ (ints ((newB a).set 0 (u8of n))) (ints (newB q)) _ (by omega) (by omega) (by ((repeat (first | ((first | refine Rd.own 1 rfl ?_ | refine Rd.own 3 rfl ?_); (assumption)) | apply Rd.cons)); done)) (by ((repeat (first | ((first | refine Rd.own 3 rfl ?_ | refine Rd.own 5 rfl ?_); (assumption)) | apply Rd.cons)); done)))) (fun _ _ _ _ => ?_)); conv => whnf)
        | ((refine Cl.is (Con.dt rfl (Try.refSame _ _ R _ _ R _ (by omega) (by ((repeat (first | ((refine Rd.own 1 rfl ?_); (assumption)) | apply Rd.cons)); done)) (by ((repeat (first | ((refine Rd.own 0 rfl ?_); (assumption)) | apply Rd.cons)); done)))) ?_); conv => whnf))
      all_goals (refine Is.ent ?_ ?_; (focus (refine FEnt.ent ?_; (repeat (first | exact FEnt.rfl | refine FEnt.drop ?_)); done)); (exact Is.rfl))
    · have h0 : (newB a).length = 0 := by omega
      have hno : ¬ thr (newB a).length 0 1 := by rw [h0]; decide
      have e1 : runF (max (newB a).length (newB q).length : Nat) (unl 0 (newB a) (newB q)) = runF (max (ints (newB a)).length (ints (newB q)).length : Nat) (unl 0 (ints (newB a)) (ints (newB q))) := by rw [hiX, hiY, unl_ints]
      have e2 : runF (max (newB q).length (newB a).length : Nat) (unl 0 (newB q) (newB a)) = runF (max (ints (newB a)).length (ints (newB q)).length : Nat) (unl 0 (ints (newB a)) (ints (newB q))) := by rw [hiX, hiY, unl_ints, unl_comm, Nat.max_comm]
      have hRl : (runF (max (ints (newB a)).length (ints (newB q)).length : Nat) (unl 0 (ints (newB a)) (ints (newB q)))).length ≤ max (ints (newB a)).length (ints (newB q)).length := runs_len runs_ok
      generalize hR : runF (max (ints (newB a)).length (ints (newB q)).length : Nat) (unl 0 (ints (newB a)) (ints (newB q))) = R at *
      have hR0 : R.length ≤ 1000000 := by omega
      refine con_of Try.tysOk Try.func4 rfl rfl ?_
      conv => whnf
      repeat' (first
        | (first | ((with_reducible refine Br.tt ?_); conv => whnf) | ((with_reducible refine Br.ff ?_); conv => whnf) | ((with_reducible refine Br.df ?_ ?_); (focus (first | assumption | omega)); conv => whnf))
        | (first | ((with_reducible refine Cl.is (Try.memLive _) ?_); conv => whnf) | ((with_reducible refine Cl.exs (Try.memNew _ _ ⟨by omega, by omega⟩) (fun b1 _ => ?_)); conv => whnf) | ((with_reducible refine Cl.new (Try.refNew _ _ ⟨by omega, by omega⟩) (fun _ _ _ _ => ?_)); conv => whnf) | ((refine Cl.isAt 3 rfl (Try.memSetNo _ (newB a) _ _ _ (by omega) ⟨by omega, by omega⟩ hno) ?_); conv => whnf) | ((refine Cl.new (Con.newAt (perm_at2 3 2 rfl rfl) (Con.newEq e1 (Try.memDiff _ _ (newB a) (newB q) _ (by omega) (by omega)))) (fun _ _ _ _ => ?_)); conv => whnf) | ((refine Cl.new (Con.newAt (perm_at2 4 4 rfl rfl) (Con.newEq e2 (Try.memDiff _ _ (newB q) (newB a) _ (by omega) (by omega)))) (fun _ _ _ _ => ?_)); conv => whnf))
        | ((refine Cl.new (Con.newEq hR (Try.refDiff _ _ _ _ (ints (newB a)) (ints (newB q)) _ (by omega) (by omega) (by ((repeat (first | ((first | refine Rd.own 2 rfl ?_ | refine Rd.own 4 rfl ?_); (assumption)) | apply Rd.cons)); done)) (by ((repeat (first | ((first | refine Rd.own 1 rfl ?_ | refine Rd.own 3 rfl ?_); (assumption)) | apply Rd.cons)); done)))) (fun _ _ _ _ => ?_)); conv => whnf)
        | ((refine Cl.is (Con.dt rfl (Try.refSame _ _ R _ _ R _ (by omega) (by ((repeat (first | ((refine Rd.own 1 rfl ?_); (assumption)) | apply Rd.cons)); done)) (by ((repeat (first | ((refine Rd.own 0 rfl ?_); (assumption)) | apply Rd.cons)); done)))) ?_); conv => whnf))
      all_goals (refine Is.ent ?_ ?_; (focus (refine FEnt.ent ?_; (repeat (first | exact FEnt.rfl | refine FEnt.drop ?_)); done)); (exact Is.rfl))
end Go.Proofs
