/- Marks as text: contracts. -/
import Derived.Test.YtkecobhmglcnfaaDoorTraceA
import Derived.Lib.ItoaLen
set_option linter.all false
namespace Go.Eng
variable {P : Program} {τ : Tys}
theorem Bt.shr4 {x : Int} {j : IntKind} {K : Int → Prop} (k : K (x / 16)) : Bt (x.fdiv (2 ^ (min (Int.toNat 4) j.bits))) K := Bt.is (by
  have : (2 : Int) ^ (min (Int.toNat 4) j.bits) = 16 := by cases j <;> rfl
  rw [this, Int.fdiv_eq_ediv_of_nonneg x (by omega)]) k
theorem and15_u8 (x : UInt8) : bits .and .u8 (x.toNat : Int) 15 = (x.toNat : Int) % 16 := by
  have h : ∀ x : Fin 256, bits .and .u8 ((x.val : Nat) : Int) 15 = ((x.val : Nat) : Int) % 16 := by decide +kernel
  exact h ⟨x.toNat, x.toNat_lt⟩
theorem Bt.low4 {x : UInt8} {K : Int → Prop} (k : K ((x.toNat : Int) % 16)) : Bt (bits .and .u8 (x.toNat : Int) 15) K := Bt.is (and15_u8 x) k
end Go.Eng
namespace Go.Proofs
open Go.Eng
open Classical
set_option linter.unusedVariables false
set_option maxRecDepth 100000
set_option maxHeartbeats 2000000
def nameL : List ByteArray := [⟨#[]⟩, ⟨#[109, 101, 109, 111, 114, 121]⟩, ⟨#[119, 97, 107, 101, 100]⟩, ⟨#[99, 97, 108, 108, 101, 100]⟩, ⟨#[104, 97, 108, 116, 101, 100]⟩, ⟨#[112, 111, 115, 116, 101, 100]⟩, ⟨#[100, 114, 111, 112, 112, 101, 100]⟩, ⟨#[115, 97, 105, 100]⟩, ⟨#[115, 101, 110, 116]⟩, ⟨#[115, 116, 111, 114, 101, 100]⟩]
def nameF (s : Int) : ByteArray := if s < 10 then nameL.getD s.toNat strE.d else ⟨#[]⟩
theorem Tryd.trcNames (L : List HP) : Con Tryd.prog 40 [] L (New strE 9 nameL L) := by
  refine con_of Tryd.tysOk Tryd.func40 rfl rfl ?_
  conv => whnf
  repeat' ((with_reducible refine Nc.go' (fun _ => ?_)); conv => whnf)
  all_goals exact New.of rfl (Nat.le_of_ble_eq_true rfl) (fun _ => rfl) (by (refine FEnt.ent ?_; (repeat (first | exact FEnt.rfl | (refine FEnt.lit 0 rfl rfl rfl rfl ?_; (try simp only [List.eraseIdx_cons_zero, List.eraseIdx_cons_succ, List.eraseIdx_zero, List.tail_cons])))); done))
theorem Tryd.trcName (s : Int) (L : List HP) (hs : 0 ≤ s ∧ s ≤ 255) : Con Tryd.prog 20 [z8 s] L (Is (.string (nameF s)) L) := by
  have hn := fun L => Tryd.trcNames L
  have hl : nameL.length = 10 := rfl
  unfold nameF
  generalize nameL = l at *
  by_cases h : s < 10
  · rw [if_pos h]
    refine con_of Tryd.tysOk Tryd.func20 rfl rfl ?_
    conv => whnf
    repeat' (first
      | ((with_reducible refine Br.dt ?_ ?_); (focus (first | assumption | omega)); conv => whnf)
      | ((with_reducible refine Ar.i64 ?_ ?_); (focus omega); conv => whnf)
      | ((with_reducible refine Ix.ad ?_ ?_ ?_); (focus (assumption)); (focus (omega)); conv => whnf)
      | ((apply Ld.rd0); (focus ((repeat ((refine Rd.own 0 rfl ?_); (assumption))); done)); (focus rfl); (focus (omega)); (focus rfl); conv => whnf)
      | ((with_reducible refine Cl.new (hn _) (fun _ _ _ _ => ?_)); conv => whnf))
    all_goals (refine Is.ent ?_ ?_; (focus (refine FEnt.ent ?_; (repeat (first | exact FEnt.rfl | refine FEnt.drop ?_)); done)); (exact Is.rfl))
  · rw [if_neg h]
    refine con_of Tryd.tysOk Tryd.func20 rfl rfl ?_
    conv => whnf
    repeat' (first
      | ((with_reducible refine Br.df ?_ ?_); (focus (first | assumption | omega)); conv => whnf)
      | ((with_reducible refine Ar.i64 ?_ ?_); (focus omega); conv => whnf)
      | ((with_reducible refine Cl.new (hn _) (fun _ _ _ _ => ?_)); conv => whnf))
    all_goals (refine Is.ent ?_ ?_; (focus (refine FEnt.ent ?_; (repeat (first | exact FEnt.rfl | refine FEnt.drop ?_)); done)); (exact Is.rfl))
abbrev numP (n : Int) : Prop := 0 ≤ n ∧ n ≤ 2147483647
theorem Tryd.trcRight (n : Int) (L : List HP) : Con Tryd.prog 38 [z64 n] L (Is (.bool (decide (numP n))) L) := by
  refine con_of Tryd.tysOk Tryd.func38 rfl rfl ?_
  conv => whnf
  repeat' (first
    | (first | ((with_reducible refine Br.tt ?_); conv => whnf) | ((with_reducible refine Br.ff ?_); conv => whnf))
    | ((with_reducible refine Br.ds (fun _ => ?_) (fun _ => ?_) ) <;> (conv => whnf)))
  all_goals (refine Is.ent ?_ ?_; (focus (exact Ent.rfl)); (first | exact Is.ff (by omega) | (refine Is.dec ?_; omega)))
structure MayM (m : Mrk) : Prop where
  s : 1 ≤ m.s ∧ m.s ≤ 9
  t : numP m.t
  a : numP m.a
  b : numP m.b
  n : numP m.n
theorem nameF_ne {s : Int} (h : 1 ≤ s ∧ s ≤ 9) : nameF s ≠ ⟨#[]⟩ := by
  have hs : s = 1 ∨ s = 2 ∨ s = 3 ∨ s = 4 ∨ s = 5 ∨ s = 6 ∨ s = 7 ∨ s = 8 ∨ s = 9 := by omega
  rcases hs with rfl | rfl | rfl | rfl | rfl | rfl | rfl | rfl | rfl <;> (intro e; have := congrArg ByteArray.size e; revert this; decide)
theorem nameF_no {s : Int} (h0 : 0 ≤ s) (h : ¬ (1 ≤ s ∧ s ≤ 9)) : nameF s = ⟨#[]⟩ := by
  by_cases h1 : s = 0
  · subst h1; rfl
  · unfold nameF; rw [if_neg (by omega)]
theorem Tryd.trcMay (m : Mrk) (L : List HP) (hB : MrB m) : Con Tryd.prog 18 [mrV m] L (Is (.bool (decide (MayM m))) L) := by
  have hn := fun L => Tryd.trcName m.s L hB.s
  have hr := fun n L => Tryd.trcRight n L
  have hM : MayM m ↔ (1 ≤ m.s ∧ m.s ≤ 9) ∧ numP m.t ∧ numP m.a ∧ numP m.b ∧ numP m.n := ⟨fun h => ⟨h.s, h.t, h.a, h.b, h.n⟩, fun h => ⟨h.1, h.2.1, h.2.2.1, h.2.2.2.1, h.2.2.2.2⟩⟩
  rw [decide_eq_decide.2 hM]
  by_cases h : 1 ≤ m.s ∧ m.s ≤ 9
  · have hne := nameF_ne h
    refine con_of Tryd.tysOk Tryd.func18 rfl rfl ?_
    conv => whnf
    repeat' (first
      | (first | ((with_reducible refine Br.tt ?_); conv => whnf) | ((with_reducible refine Br.ff ?_); conv => whnf) | ((with_reducible refine Br.ndt ?_ ?_); (focus (first | assumption | omega)); conv => whnf))
      | ((with_reducible refine Nc.go' (fun _ => ?_)); conv => whnf)
      | (refine Ld.at 0 rfl rfl ?_; conv => whnf)
      | (first | ((with_reducible refine Cl.is (hn _) ?_); conv => whnf) | ((with_reducible refine Cl.is (hr _ _) ?_); conv => whnf))
      | ((with_reducible refine Br.ds (fun _ => ?_) (fun _ => ?_) ) <;> (conv => whnf)))
    all_goals first | (refine Is.ent ?_ ?_; (focus (refine FEnt.ent ?_; (repeat (first | exact FEnt.rfl | refine FEnt.drop ?_)); done)); (first | exact Is.ff (by omega) | (refine Is.dec ?_; omega))) | exact Is.ent (by fail) (Is.dec (by omega)) | exact Is.ent (by fail) (Is.ff (by omega))
  · rw [nameF_no hB.s.1 h] at hn
    rw [decide_eq_false (fun hh => h hh.1)]
    refine con_of Tryd.tysOk Tryd.func18 rfl rfl ?_
    conv => whnf
    repeat' (first
      | (first | ((with_reducible refine Br.ff ?_); conv => whnf) | ((with_reducible refine Br.no ?_ ?_); (focus (first | (simp; done) | (simp; omega))); conv => whnf))
      | ((with_reducible refine Nc.go' (fun _ => ?_)); conv => whnf)
      | (refine Ld.at 0 rfl rfl ?_; conv => whnf)
      | ((with_reducible refine Cl.is (hn _) ?_); conv => whnf))
    all_goals first | (refine Is.ent ?_ ?_; (focus (refine FEnt.ent ?_; (repeat (first | exact FEnt.rfl | refine FEnt.drop ?_)); done)); (exact Is.rfl)) | (exfalso; omega)
/-! bytes as digits -/
def dgI (n : Int) : Int := if n < 10 then 48 + n else 87 + n
def dgU (n : Int) : UInt8 := u8of (dgI n)
theorem dgU_toNat {n : Int} (h : 0 ≤ n ∧ n ≤ 15) : ((dgU n).toNat : Int) = dgI n := by
  unfold dgU
  rw [u8of_int]
  unfold dgI
  split <;> omega
theorem Tryd.trcDigit (n : Int) (L : List HP) (h : 0 ≤ n ∧ n ≤ 15) : Con Tryd.prog 51 [z8 n] L (Is (.int .u8 (dgU n).toNat) L) := by
  rw [dgU_toNat h]
  unfold dgI
  by_cases h1 : n < 10
  · rw [if_pos h1]
    refine con_of Tryd.tysOk Tryd.func51 rfl rfl ?_
    conv => whnf
    repeat' (first
      | ((with_reducible refine Br.dt ?_ ?_); (focus (first | assumption | omega)); conv => whnf)
      | ((with_reducible refine Ar.u8b ?_); conv => whnf))
    all_goals exact Is.ent (by (exact Ent.rfl)) (Is.val (by simp only [u8of_int]; congr 1; omega))
  · rw [if_neg h1]
    refine con_of Tryd.tysOk Tryd.func51 rfl rfl ?_
    conv => whnf
    repeat' (first
      | ((with_reducible refine Br.df ?_ ?_); (focus (first | assumption | omega)); conv => whnf)
      | ((with_reducible refine Ar.u8b ?_); conv => whnf))
    all_goals exact Is.ent (by (exact Ent.rfl)) (Is.val (by simp only [u8of_int]; congr 1; omega))
def hx2 (u : UInt8) : List UInt8 := [dgU ((u.toNat : Int) / 16), dgU ((u.toNat : Int) % 16)]
def hexF (s : ByteArray) : List UInt8 := if s.size = 0 then [45] else s.data.toList.flatMap hx2
theorem hx2_snoc {xs : List UInt8} {k : Nat} (hk : k < xs.length) : (xs.take (k + 1)).flatMap hx2 = (xs.take k).flatMap hx2 ++ [dgU (((xs.getD k 0).toNat : Int) / 16), dgU (((xs.getD k 0).toNat : Int) % 16)] := by
  rw [List.take_add_one, List.getElem?_eq_getElem hk, List.flatMap_append]
  have e : xs.getD k 0 = xs[k] := by simp [List.getD, hk]
  rw [e]
  simp [hx2]
theorem hx2_len (xs : List UInt8) : (xs.flatMap hx2).length = 2 * xs.length := by
  induction xs with
  | nil => rfl
  | cons x xs ih => rw [List.flatMap_cons, List.length_append, ih, List.length_cons]; simp only [hx2, List.length_cons, List.length_nil]; omega
theorem hexF_len (s : ByteArray) : (hexF s).length ≤ 2 * s.size + 1 := by
  unfold hexF
  split
  · simp
  · rw [hx2_len, size_list]; omega
theorem size_zero {s : ByteArray} (h : s.size = 0) : s = ⟨#[]⟩ := str_ext (List.eq_nil_of_length_eq_zero (by rw [size_list]; exact h))
theorem Tryd.trcHex (s : ByteArray) (L : List HP) (hs : s.size ≤ 1000000) : Con Tryd.prog 34 [.string s] L (Is (.string ⟨(hexF s).toArray⟩) L) := by
  unfold hexF
  by_cases h0 : s.size = 0
  · rw [if_pos h0]
    have := size_zero h0
    subst this
    refine con_of Tryd.tysOk Tryd.func34 rfl rfl ?_
    conv => whnf
    repeat' ((with_reducible refine Br.yes ?_ ?_); (focus (first | (simp; done) | (simp; omega))); conv => whnf)
    all_goals (refine Is.ent ?_ ?_; (focus (exact Ent.rfl)); (exact Is.rfl))
  · rw [if_neg h0]
    have hne : ¬ s = ⟨#[]⟩ := fun h => h0 (by rw [h]; rfl)
    have hsl := size_list s
    refine con_of Tryd.tysOk Tryd.func34 rfl rfl ?_
    conv => whnf
    repeat' ((with_reducible refine Br.df ?_ ?_); (focus (first | assumption | omega)); conv => whnf)
    conv => whnf
    refine Lp.by2 Tryd.tysOk [9, 3] (fun (k : Nat) (P : Option Addr × Nat × List UInt8) => [.int .i64 k, .slice P.1 P.2.2.length P.2.1]) (fun k P => own u8E 5 P.1 P.2.1 P.2.2 :: L) (fun k P => k ≤ s.size ∧ (P.2.2 = (s.data.toList.take k).flatMap hx2 ∧ P.2.2.length ≤ P.2.1 ∧ Ad P.1 P.2.2.length)) (fun k P => s.size - k) (0) (((none, 0, []) : Option Addr × Nat × List UInt8)) (by kernel_rfl) (by (exact Ent.nil)) (⟨by omega, ⟨rfl, by simp, fun h => (h rfl).elim⟩⟩) ?_
    rintro k ⟨a2, c2, ys⟩ ⟨g1, ⟨p1, p2, p3⟩⟩
    conv => whnf
    repeat (intro _; conv => whnf)
    dsimp only at p1 p2 p3
    have hyl : ys.length = 2 * k := by rw [p1, hx2_len, List.length_take]; omega
    by_cases hk : k < s.size
    · have e1 := hx2_snoc (xs := s.data.toList) (k := k) (by omega)
      rw [← p1] at e1
      have hu := u8_lt (sAt s k)
      have d1 := fun L => Tryd.trcDigit (((sAt s k).toNat : Int) / 16) L (by omega)
      have d2 := fun L => Tryd.trcDigit (((sAt s k).toNat : Int) % 16) L (by omega)
      conv => whnf
      repeat' (first
        | ((with_reducible refine Br.dt ?_ ?_); (focus (first | assumption | omega)); conv => whnf)
        | (first | ((refine Bt.shr4 ?_); conv => whnf) | ((refine Bt.low4 ?_); conv => whnf))
        | ((with_reducible refine Ar.i64 ?_ ?_); (focus omega); conv => whnf)
        | ((with_reducible refine Nd.mk ?_ ?_); (focus (first | omega | rfl | assumption | (simp; done))); conv => whnf)
        | ((with_reducible refine Nc.go' (fun _ => ?_)); conv => whnf)
        | ((with_reducible refine SIx.nat ?_ ?_); (focus (omega)); conv => whnf)
        | ((with_reducible refine Dr.by (id := 7) Tryd.tysOk rfl [(0, 0), (1, 0), (2, 0), (3, 0), (4, 0), (6, 0), (7, 0), (8, 0), (9, 0), (5, 1), (10, 1), (11, 2), (12, 3), (13, 0)] ?_ ?_); (focus kernel_rfl); conv => whnf)
        | (first | ((with_reducible refine CD.is (fun M => d1 _) ?_); conv => whnf) | ((with_reducible refine CD.is (fun M => d2 _) ?_); conv => whnf))
        | ((with_reducible refine (?_ : Sm _ (Builtin.append_ _ _ _) _ _)); (((with_reducible apply (Sm.appAt (E := u8E) (et := 5) Tryd.tysOk 1)); (focus rfl)); (rotate_left; (focus (exact Rd.ptc 0 rfl [_, _] rfl)); rotate_right; (focus rfl)); (focus rfl); (focus rfl); (focus rfl); (focus rfl); (focus rfl); (focus rfl); (focus ((simp only [List.length_append, List.length_cons, List.length_nil]); omega)); (intro _ _ _ _); conv => whnf)))
      rename_i a5 c5 hc5 had5
      exact ⟨k + 1, (a5, c5, ys ++ [dgU (((sAt s k).toNat : Int) / 16), dgU (((sAt s k).toNat : Int) % 16)]), by kernel_rfl, by (try dsimp only); (refine FEnt.ent ?_; (repeat (first | exact FEnt.rfl | (refine FEnt.at 0 rfl ?_; (try simp only [List.eraseIdx_cons_zero, List.eraseIdx_cons_succ, List.eraseIdx_zero, List.tail_cons])) | refine FEnt.drop ?_)); done), ⟨by omega, ⟨e1.symm, hc5, had5⟩⟩, by omega⟩
    · have e : k = s.size := by omega
      subst e
      rw [← hsl, List.take_length] at p1
      subst p1
      clear hne
      conv => whnf
      repeat' (first
        | ((with_reducible refine Br.df ?_ ?_); (focus (first | assumption | omega)); conv => whnf)
        | ((with_reducible refine (?_ : Sm _ (convert _ _ _) _ _)); ((apply (Sm.b2s Tryd.tysOk)); ((focus rfl); (focus ((repeat ((refine Rd.own 0 rfl ?_); (assumption))); done))); (focus rfl); (focus rfl); (focus rfl); (focus rfl); (focus rfl); (focus rfl); conv => whnf)))
      all_goals (refine Is.ent ?_ ?_; (focus (refine FEnt.ent ?_; (repeat (first | exact FEnt.rfl | refine FEnt.drop ?_)); done)); (exact Is.rfl))
end Go.Proofs
