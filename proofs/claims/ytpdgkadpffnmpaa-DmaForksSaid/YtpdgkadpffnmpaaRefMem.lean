/- The document's memory, a list of numbers: contracts. -/
import Derived.Test.YtpdgkadpffnmpaaMem
set_option linter.all false
namespace Go.Proofs
open Go.Eng
set_option linter.unusedVariables false
set_option maxRecDepth 100000
set_option maxHeartbeats 600000
/-- bytes as numbers -/
abbrev ints (xs : List UInt8) : List Int := xs.map fun u => (u.toNat : Int)
theorem ints_len (xs : List UInt8) : (ints xs).length = xs.length := by simp
theorem ints_getD (xs : List UInt8) (i : Nat) : (ints xs).getD i 0 = bAt xs i := by
  simp only [List.getD, ints, List.getElem?_map, bAt]
  cases xs[i]? <;> rfl
theorem ints_lay (xs ys : List UInt8) (k : Nat) : ints (lay xs k ys) = lay (ints xs) k (ints ys) := by
  simp [lay, ints, List.map_take, List.map_drop]
theorem u8of_ints (xs : List UInt8) : (ints xs).map u8of = xs := by
  rw [ints, List.map_map]
  have : (u8of ∘ fun u : UInt8 => (u.toNat : Int)) = id := by funext u; exact u8of_toNat u
  rw [this, List.map_id]
/-- the lower byte -/
abbrev low (n : Int) : Int := n % 256
theorem ints_u8of (ls : List Int) : ints (ls.map u8of) = ls.map low := by
  rw [ints, List.map_map]
  congr 1
  funext n; exact u8of_int n
theorem lay_snoc {α : Type} {xs ys : List α} {k : Nat} {y : α} (h : k + ys.length < xs.length) : (lay xs k ys).set (k + ys.length) y = lay xs k (ys ++ [y]) := by
  unfold lay
  have h1 : k + ys.length = (xs.take k ++ ys).length := by rw [List.length_append, List.length_take, Nat.min_eq_left (by omega)]
  rw [List.drop_eq_getElem_cons h, set_mid h1, List.length_append, List.length_singleton, ← Nat.add_assoc]
  simp
theorem take_snoc' {α : Type} {xs : List α} {k : Nat} (d : α) (h : k < xs.length) : xs.take (k + 1) = xs.take k ++ [xs.getD k d] := by
  rw [List.take_add_one]
  congr 1
  simp [List.getD, h]
theorem Try.refNew (n : Int) (L : List HP) (hn : I64 n) :
    Con Try.prog 11 [i64V n] L (New intE 3 (ints (zeros (min (max n 0) 16384).toNat)) L) := by
  have hN : ints (zeros (min (max n 0) 16384).toNat) = List.replicate (min (max n 0) 16384).toNat 0 := by simp [ints, zeros]
  rw [hN]
  refine con_of Try.tysOk Try.func11 rfl rfl ?_
  conv => whnf
  refine Nc.go' (fun b0 => ?_)
  conv => whnf
  refine Lp.by4 Try.tysOk [4, 3] (fun (k : Nat) (out : List Int) (a2 : Option Addr) (c2 : Nat) => [.int .i64 k, .slice a2 out.length c2]) (fun k out a2 c2 => own intE 3 a2 c2 out :: L) (fun k out a2 c2 => k ≤ (min (max n 0) 16384).toNat ∧ out = List.replicate k 0 ∧ Ad a2 out.length ∧ out.length ≤ c2) (fun k out a2 c2 => (min (max n 0) 16384).toNat - k) (0) ([]) (some ⟨b0, 0, none⟩) (0) (by kernel_rfl) (by (refine FEnt.ent ?_; (repeat (first | exact FEnt.rfl | (refine FEnt.own0 0 rfl ?_; (try simp only [List.eraseIdx_cons_zero, List.eraseIdx_cons_succ, List.eraseIdx_zero, List.tail_cons])))); done)) (⟨by omega, rfl, fun h => rfl, by simp⟩) ?_
  rintro k out a2 c2 ⟨h1, h2, h3, h4⟩
  conv => whnf
  repeat (intro _; conv => whnf)
  have hol : out.length = k := by rw [h2]; simp
  by_cases hk : k < (min (max n 0) 16384).toNat
  · conv => whnf
    repeat' (first
      | (first | ((with_reducible refine Br.tt ?_); conv => whnf) | ((with_reducible refine Br.dt ?_ ?_); (focus (first | assumption | omega)); conv => whnf))
      | ((with_reducible refine Ar.i64 ?_ ?_); (focus omega); conv => whnf)
      | ((with_reducible refine Nc.go' (fun b => ?_)); conv => whnf)
      | ((with_reducible refine (?_ : Sm _ (Builtin.append_ _ _ _) _ _)); (((with_reducible apply (Sm.appAt (E := intE) (et := 3) Try.tysOk 1)); (focus rfl)); (rotate_left; (focus (exact Rd.ptc 0 rfl [_] rfl)); rotate_right; (focus rfl)); (focus rfl); (focus rfl); (focus rfl); (focus rfl); (focus rfl); (focus rfl); (focus (simp only [List.length_set, List.length_append, List.length_take, List.length_drop, List.length_cons, List.length_nil] at *; omega)); (intro _ _ _ _); conv => whnf)))
    rename_i a3 c3 hc3 had3
    refine ⟨k + 1, _, a3, c3, by kernel_rfl, by (refine FEnt.ent ?_; (repeat (first | exact FEnt.rfl | (refine FEnt.at 0 rfl ?_; (try simp only [List.eraseIdx_cons_zero, List.eraseIdx_cons_succ, List.eraseIdx_zero, List.tail_cons])) | refine FEnt.drop ?_)); done), ⟨by omega, by rw [h2, ← List.replicate_succ'], had3, hc3⟩, by omega⟩
  · have e : k = (min (max n 0) 16384).toNat := by omega
    rw [← e, ← h2]
    conv => whnf
    repeat' (first
      | (first | ((with_reducible refine Br.tt ?_); conv => whnf) | ((with_reducible refine Br.ff ?_); conv => whnf) | ((with_reducible refine Br.df ?_ ?_); (focus (first | assumption | omega)); conv => whnf))
      | ((with_reducible refine Br.ds (fun _ => ?_) (fun _ => ?_) ) <;> (conv => whnf)))
    all_goals exact New.of rfl h4 h3 (by (exact Ent.rfl))
theorem Try.refThere (a : Option Addr) (c : Nat) (len : Nat) (at_ n : Int) (L : List HP) (hl : len ≤ 1000000000) (ha : I64 at_) (hn : I64 n) (h0 : 0 ≤ n) :
    Con Try.prog 49 [.slice a len c, i64V at_, i64V n] L (Is (.bool (decide (thr len at_ n))) L) := by
  refine con_of Try.tysOk Try.func49 rfl rfl ?_
  conv => whnf
  repeat' (first
    | (first | ((with_reducible refine Br.tt ?_); conv => whnf) | ((with_reducible refine Br.ff ?_); conv => whnf))
    | ((with_reducible refine Ar.i64 ?_ ?_); (focus omega); conv => whnf)
    | ((with_reducible refine Br.ds (fun _ => ?_) (fun _ => ?_) ) <;> (conv => whnf)))
  all_goals (refine Is.ent ?_ ?_; (focus (exact Ent.rfl)); (first | exact Is.ff (by omega) | (refine Is.dec ?_; omega)))
theorem Try.refWith (a a' : Option Addr) (c c' k : Nat) (at_ : Int) (zs ls : List Int) (L : List HP) (hm : zs.length ≤ 1000000) (hk : at_ = k) (h : k + ls.length ≤ zs.length)
    (hr : Rd intE L a zs) (hr' : Rd intE L a' ls) (hls : ∀ x ∈ ls, I64 x) :
    Con Try.prog 32 [.slice a zs.length c, i64V at_, .slice a' ls.length c'] L (New intE 3 (lay zs k (ls.map low)) L) := by
  subst hk
  refine con_of Try.tysOk Try.func32 rfl rfl ?_
  conv => whnf
  repeat' (first
    | ((with_reducible refine Nc.go' (fun b => ?_)); conv => whnf)
    | ((with_reducible refine (?_ : Sm _ (Builtin.append_ _ _ _) _ _)); (((with_reducible_and_instances apply (Sm.appNew (E := intE) (et := 3) Try.tysOk 0)); (focus rfl)); ((focus rfl); (focus ((repeat (first | assumption | apply Rd.cons)); done))); (focus rfl); (focus rfl); (focus rfl); (focus rfl); (focus rfl); (focus (omega)); (intro _ _ _ _); conv => whnf)))
  rename_i a2 c2 hc2 had2
  conv => whnf
  refine Lp.by2 Try.tysOk [8] (fun (i : Nat) (out : List Int) => [.int .i64 i]) (fun i out => own intE 3 a2 c2 out :: L) (fun i out => i ≤ ls.length ∧ out = lay zs k ((ls.take i).map low)) (fun i out => ls.length - i) (0) (zs) (by kernel_rfl) (by (exact Ent.rfl)) (⟨by omega, by simp [lay]⟩) ?_
  rintro i out ⟨h1, h2⟩
  conv => whnf
  repeat (intro _; conv => whnf)
  have hol : out.length = zs.length := by rw [h2, lay_len (by rw [List.length_map, List.length_take]; omega)]
  by_cases hi : i < ls.length
  · have ej : (k : Int) + i = ((k + i : Nat) : Int) := by omega
    have hP : ((ls.take i).map low).length = i := by rw [List.length_map, List.length_take]; omega
    have hz := lay_snoc (xs := zs) (ys := (ls.take i).map low) (k := k) (y := low (ls.getD i intE.d)) (by omega)
    rw [hP, ← h2] at hz
    have hz2 : (ls.take i).map low ++ [low (ls.getD i intE.d)] = (ls.take (i + 1)).map low := by rw [take_snoc' intE.d hi]; simp
    rw [hz2] at hz
    conv => whnf
    repeat' (first
      | ((with_reducible refine Br.dt ?_ ?_); (focus (first | assumption | omega)); conv => whnf)
      | ((with_reducible refine Ar.i64 ?_ ?_); (focus omega); conv => whnf)
      | ((with_reducible refine Nd.mk ?_ ?_); (focus (first | omega | rfl | assumption | (simp; done))); conv => whnf)
      | ((with_reducible refine Ix.ad ?_ ?_ ?_); (focus (first | assumption | exact Rd.ad (by assumption))); (focus (omega)); conv => whnf)
      | ((with_reducible apply Ld.rdk0); (focus ((repeat (first | assumption | apply Rd.cons)); done)); (focus rfl); (focus (omega)); (focus rfl); conv => whnf)
      | ((with_reducible refine Cl.is (Try.refLow _ (hls _ (getD_mem hi)) _) ?_); conv => whnf)
      | ((rw [ej]); conv => whnf)
      | ((refine St.own0k 0 rfl rfl (by omega) (low (ls.getD i intE.d)) rfl (Nat.le_refl _) rfl ?_); conv => whnf))
    refine ⟨i + 1, _, by kernel_rfl, by (exact Ent.rfl), ⟨by omega, hz⟩, by omega⟩
  · have e : i = ls.length := by omega
    rw [e, List.take_length] at h2
    conv => whnf
    repeat' ((with_reducible refine Br.df ?_ ?_); (focus (first | assumption | omega)); conv => whnf)
    rw [← h2]
    exact New.of hol.symm (by omega) (by rw [hol]; exact had2) (by (exact Ent.rfl))
theorem Try.refBytes (s : ByteArray) (L : List HP) (hs : s.size ≤ 1000000) :
    Con Try.prog 33 [.string s] L (New intE 3 (ints s.data.toList) L) := by
  refine con_of Try.tysOk Try.func33 rfl rfl ?_
  conv => whnf
  refine Nc.go' (fun b0 => ?_)
  conv => whnf
  refine Lp.by4 Try.tysOk [4, 3] (fun (k : Nat) (out : List Int) (a2 : Option Addr) (c2 : Nat) => [.int .i64 k, .slice a2 out.length c2]) (fun k out a2 c2 => own intE 3 a2 c2 out :: L) (fun k out a2 c2 => k ≤ s.size ∧ out = ints (s.data.toList.take k) ∧ Ad a2 out.length ∧ out.length ≤ c2) (fun k out a2 c2 => s.size - k) (0) ([]) (some ⟨b0, 0, none⟩) (0) (by kernel_rfl) (by (refine FEnt.ent ?_; (repeat (first | exact FEnt.rfl | (refine FEnt.own0 0 rfl ?_; (try simp only [List.eraseIdx_cons_zero, List.eraseIdx_cons_succ, List.eraseIdx_zero, List.tail_cons])))); done)) (⟨by omega, rfl, fun h => rfl, by simp⟩) ?_
  rintro k out a2 c2 ⟨h1, h2, h3, h4⟩
  conv => whnf
  repeat (intro _; conv => whnf)
  have hs2 := size_list s
  have hol : out.length = k := by rw [h2, ints_len, List.length_take]; omega
  by_cases hk : k < s.size
  · have hz : out ++ [((sAt s k).toNat : Int)] = ints (s.data.toList.take (k + 1)) := by rw [take_snoc' 0 (by omega), h2]; simp [ints, sAt]
    conv => whnf
    repeat' (first
      | ((with_reducible refine Br.dt ?_ ?_); (focus (first | assumption | omega)); conv => whnf)
      | (first | ((with_reducible refine Ar.i64b ?_); conv => whnf) | ((with_reducible refine Ar.i64 ?_ ?_); (focus omega); conv => whnf))
      | ((with_reducible refine Nc.go' (fun b => ?_)); conv => whnf)
      | ((with_reducible refine SIx.nat ?_ ?_); (focus (omega)); conv => whnf)
      | ((with_reducible refine (?_ : Sm _ (Builtin.append_ _ _ _) _ _)); (((with_reducible apply (Sm.appAt (E := intE) (et := 3) Try.tysOk 1)); (focus rfl)); (rotate_left; (focus (exact Rd.ptc 0 rfl [_] rfl)); rotate_right; (focus rfl)); (focus rfl); (focus rfl); (focus rfl); (focus rfl); (focus rfl); (focus rfl); (focus (simp only [List.length_set, List.length_append, List.length_take, List.length_drop, List.length_cons, List.length_nil] at *; omega)); (intro _ _ _ _); conv => whnf)))
    rename_i a3 c3 hc3 had3
    refine ⟨k + 1, _, a3, c3, by kernel_rfl, by (refine FEnt.ent ?_; (repeat (first | exact FEnt.rfl | (refine FEnt.at 0 rfl ?_; (try simp only [List.eraseIdx_cons_zero, List.eraseIdx_cons_succ, List.eraseIdx_zero, List.tail_cons])) | refine FEnt.drop ?_)); done), ⟨by omega, hz, had3, hc3⟩, by omega⟩
  · have e : k = s.data.toList.length := by omega
    rw [e, List.take_length] at h2
    rw [← h2]
    conv => whnf
    repeat' ((with_reducible refine Br.df ?_ ?_); (focus (first | assumption | omega)); conv => whnf)
    exact New.of rfl h4 h3 (by (exact Ent.rfl))
theorem Try.refText (a : Option Addr) (c k m : Nat) (at_ n : Int) (zs : List Int) (L : List HP) (hm : zs.length ≤ 1000000) (hk : at_ = k) (hn : n = m) (h : k + m ≤ zs.length) (hr : Rd intE L a zs) :
    Con Try.prog 18 [.slice a zs.length c, i64V at_, i64V n] L (Is (.string ⟨(((zs.take (k + m)).drop k).map u8of).toArray⟩) L) := by
  subst hk hn
  refine con_of Try.tysOk Try.func18 rfl rfl ?_
  conv => whnf
  refine Nc.go' (fun b0 => ?_)
  conv => whnf
  refine Lp.by4 Try.tysOk [8, 7] (fun (j : Nat) (out : List UInt8) (a2 : Option Addr) (c2 : Nat) => [.int .i64 (k + j), .slice a2 out.length c2]) (fun j out a2 c2 => own u8E 5 a2 c2 out :: L) (fun j out a2 c2 => j ≤ m ∧ out = ((zs.take (k + j)).drop k).map u8of ∧ Ad a2 out.length ∧ out.length ≤ c2) (fun j out a2 c2 => m - j) (0) ([]) (some ⟨b0, 0, none⟩) (0) (by kernel_rfl) (by (refine FEnt.ent ?_; (repeat (first | exact FEnt.rfl | (refine FEnt.own0 0 rfl ?_; (try simp only [List.eraseIdx_cons_zero, List.eraseIdx_cons_succ, List.eraseIdx_zero, List.tail_cons])))); done)) (⟨by omega, by simp, fun h => rfl, by simp⟩) ?_
  rintro j out a2 c2 ⟨h1, h2, h3, h4⟩
  conv => whnf
  repeat (intro _; conv => whnf)
  have hol : out.length = j := by rw [h2, List.length_map, List.length_drop, List.length_take]; omega
  have ej : (k : Int) + j = ((k + j : Nat) : Int) := by omega
  by_cases hj : j < m
  · have hz : out ++ [u8of (zs.getD (k + j) intE.d)] = ((zs.take (k + (j + 1))).drop k).map u8of := by
      rw [← Nat.add_assoc, take_snoc' intE.d (by omega), List.drop_append_of_le_length (by rw [List.length_take]; omega), List.map_append, h2]; simp
    have ek : ((k + j : Nat) : Int) + 1 = (k : Int) + ((j + 1 : Nat) : Int) := by omega
    rw [ej]
    conv => whnf
    repeat' (first
      | ((with_reducible refine Br.dt ?_ ?_); (focus (first | assumption | omega)); conv => whnf)
      | (first | ((with_reducible refine Ar.u8b ?_); conv => whnf) | ((with_reducible refine Ar.i64 ?_ ?_); (focus omega); conv => whnf))
      | ((with_reducible refine Nc.go' (fun b => ?_)); conv => whnf)
      | ((with_reducible refine Ix.ad ?_ ?_ ?_); (focus (exact Rd.ad (by assumption))); (focus (omega)); conv => whnf)
      | ((with_reducible apply Ld.rdk0); (focus ((repeat (first | assumption | apply Rd.cons)); done)); (focus rfl); (focus (omega)); (focus rfl); conv => whnf)
      | ((with_reducible refine (?_ : Sm _ (Builtin.append_ _ _ _) _ _)); (((with_reducible apply (Sm.appAt (E := u8E) (et := 5) Try.tysOk 1)); (focus rfl)); (rotate_left; (focus (exact Rd.ptc 0 rfl [_] rfl)); rotate_right; (focus rfl)); (focus rfl); (focus rfl); (focus rfl); (focus rfl); (focus rfl); (focus rfl); (focus (simp only [List.length_set, List.length_append, List.length_take, List.length_drop, List.length_cons, List.length_nil] at *; omega)); (intro _ _ _ _); conv => whnf)))
    rename_i a3 c3 hc3 had3
    rw [ek]
    refine ⟨j + 1, _, a3, c3, by kernel_rfl, by (refine FEnt.ent ?_; (repeat (first | exact FEnt.rfl | (refine FEnt.at 0 rfl ?_; (try simp only [List.eraseIdx_cons_zero, List.eraseIdx_cons_succ, List.eraseIdx_zero, List.tail_cons])) | refine FEnt.drop ?_)); done), ⟨by omega, hz, had3, hc3⟩, by omega⟩
  · have e : j = m := by omega
    subst e
    rw [← h2]
    conv => whnf
    repeat' (first
      | ((with_reducible refine Br.df ?_ ?_); (focus (first | assumption | omega)); conv => whnf)
      | ((with_reducible refine Ar.i64 ?_ ?_); (focus omega); conv => whnf)
      | ((with_reducible refine (?_ : Sm _ (convert _ _ _) _ _)); ((apply (Sm.b2s Try.tysOk)); ((focus rfl); (focus ((repeat ((refine Rd.own 0 rfl ?_); (assumption))); done))); (focus rfl); (focus rfl); (focus rfl); (focus rfl); (focus rfl); (focus rfl); conv => whnf)))
    all_goals (refine Is.ent ?_ ?_; (focus (refine FEnt.ent ?_; (repeat (first | exact FEnt.rfl | refine FEnt.drop ?_)); done)); (exact Is.rfl))
theorem Try.refThereT (a : Option Addr) (c : Nat) (len : Nat) (at_ n : Int) (L : List HP) (hl : len ≤ 1000000000) (hn : I64 n) (h0 : 0 ≤ n) (h : thr len at_ n) :
    Con Try.prog 49 [.slice a len c, i64V at_, i64V n] L (Is (.bool true) L) := Con.dt h (Try.refThere a c len at_ n L hl ⟨by unfold thr at h; omega, by unfold thr at h; omega⟩ hn h0)
theorem Try.refThereF (a : Option Addr) (c : Nat) (len : Nat) (at_ n : Int) (L : List HP) (hl : len ≤ 1000000000) (ha : I64 at_) (hn : I64 n) (h0 : 0 ≤ n) (h : ¬ thr len at_ n) :
    Con Try.prog 49 [.slice a len c, i64V at_, i64V n] L (Is (.bool false) L) := Con.df h (Try.refThere a c len at_ n L hl ha hn h0)
theorem Try.refWithB (a a' : Option Addr) (c c' k : Nat) (at_ : Int) (xs ys : List UInt8) (ls : List Int) (L : List HP) (hm : xs.length ≤ 1000000) (hk : at_ = k) (h : k + ls.length ≤ xs.length)
    (hr : Rd intE L a (ints xs)) (hr' : Rd intE L a' ls) (hls : ∀ x ∈ ls, I64 x) (hy : ints ys = ls.map low) :
    Con Try.prog 32 [.slice a (ints xs).length c, i64V at_, .slice a' ls.length c'] L (New intE 3 (ints (lay xs k ys)) L) := by
  have := Try.refWith a a' c c' k at_ (ints xs) ls L (by rw [ints_len]; exact hm) hk (by rw [ints_len]; exact h) hr hr' hls
  rwa [ints_lay, hy]
theorem Try.refTextB (a : Option Addr) (c k m : Nat) (at_ n : Int) (xs : List UInt8) (L : List HP) (hm : xs.length ≤ 1000000) (hk : at_ = k) (hn : n = m) (h : k + m ≤ xs.length) (hr : Rd intE L a (ints xs)) :
    Con Try.prog 18 [.slice a (ints xs).length c, i64V at_, i64V n] L (Is (.string ⟨((xs.take (k + m)).drop k).toArray⟩) L) := by
  have := Try.refText a c k m at_ n (ints xs) L (by rw [ints_len]; exact hm) hk hn (by rw [ints_len]; exact h) hr
  rw [ints, ← List.map_take, ← List.map_drop, u8of_ints] at this
  exact this
end Go.Proofs
