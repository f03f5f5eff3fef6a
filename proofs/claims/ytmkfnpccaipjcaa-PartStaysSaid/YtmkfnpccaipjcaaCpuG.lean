/- The processor: the document's step, whole: a contract. -/
import Derived.Test.YtmkfnpccaipjcaaCpuF
set_option linter.all false
namespace Go.Proofs
open Go.Eng
set_option linter.unusedVariables false
set_option maxRecDepth 100000
set_option maxHeartbeats 8000000
theorem Try.refStepB (A : HP) (a : Option Addr) (cp : Nat) (V : List UInt8) (pc : Int) (j : Nat) (r : Nat → Int) (L : List HP) (hV : V.length ≤ 16384) (hc : (ints V).length ≤ cp) (hr : ∀ i, I64 (r i)) (hrd : Rd intE [A] a (ints V))
    (hpj : pc = j) (ht : 0 ≤ (j : Int) ∧ (j : Int) + 4 ≤ V.length) (hi : insOk (at4 V j)) (hk : ¬ brkP V.length (insC (at4 V j)) (wordR r (insN (at4 V j)).toNat)) (hcc : insC (at4 V j) = 3 ∨ insC (at4 V j) = 4 ∨ insC (at4 V j) = 5 ∨ insC (at4 V j) = 6) :
    Con Try.prog 44 [.slice a (ints V).length cp, stV pc r 0] (A :: L) (Try.refPost A L (stepF ⟨V, pc, r, 0⟩)) := by
  subst hpj
  rw [stepF_ok ht hi hk]
  have hl := ints_len V
  have hw := wordR_ok r
  have hz : (at4 V j).size = 4 := mid_size (V := V) (k := j) (m := 4) (by omega)
  have hn2 := u8_lt (sAt (at4 V j) 2)
  have hmay : mayI (insC (at4 V j)) (insX (at4 V j)) (insN (at4 V j)) := hi
  have hg : ∀ L, Con Try.prog 54 [.string (at4 V j)] L (Is (.tuple #[insV (insC (at4 V j)) (insX (at4 V j)) (insN (at4 V j)), i64W 0]) L) := fun L => Try.refGet (at4 V j) L (by omega) (by omega) hi
  have htx : ∀ L, Rd intE L a (ints V) → Con Try.prog 34 [.slice a (ints V).length cp, i64V j, i64V 4] L (Is (.string (at4 V j)) L) := fun L h => Try.refTextB _ _ j 4 _ _ V _ (by omega) rfl rfl (by omega) h
  generalize insC (at4 V j) = c at *
  generalize insX (at4 V j) = x at *
  generalize insN (at4 V j) = n at *
  generalize at4 V j = t at *
  obtain ⟨c0, c1, x0, x1, n0, n1, n2, n3, n4⟩ := hmay
  have hrx := hw x.toNat
  have hrn := hw n.toNat
  rcases hcc with rfl | rfl | rfl | rfl
  all_goals
    refine con_of Try.tysOk Try.func44 rfl rfl ?_
    conv => whnf
    refine Nc.go' (fun b3 => ?_)
    conv => whnf
    refine Nc.go' (fun b5 => ?_)
    conv => whnf
    refine Nc.go' (fun b6 => ?_)
    conv => whnf
    repeat' (first
      | ((with_reducible refine Br.ndf ?_ ?_); (focus (first | assumption | omega)); conv => whnf)
      | (refine Ld.at 2 rfl rfl ?_; conv => whnf))
    conv => whnf
    refine Lp.by2 Try.tysOk [7] (fun (k : Nat) (q : Nat → Int) => [.int .i64 k]) (fun k q => ptc b6 102 [i64W 0, i64W 0, i64W 0, i64W 0] :: ptc b5 42 (stC 0 (fun _ => 0) 0) :: ptc b3 42 (stC (j : Int) q 0) :: A :: L) (fun k q => k ≤ 8 ∧ q = wordsTo k r) (fun k q => 8 - k) (0) (r) (by kernel_rfl) (by (exact Ent.rfl)) (⟨by omega, wordsTo_0 r⟩) ?_
    rintro k q ⟨h1, h2⟩
    conv => whnf
    repeat (intro _; conv => whnf)
    have hq : ∀ i, I64 (q i) := fun i => by rw [h2]; exact wordsTo_I hr k i
    by_cases hk : k < 8
    · have hz : upd q k (q k % 65536) = wordsTo (k + 1) r := by rw [h2]; exact wordsTo_s k r
      conv => whnf
      repeat' (first
        | ((with_reducible refine Br.dt ?_ ?_); (focus (first | assumption | omega)); conv => whnf)
        | ((with_reducible refine Ar.i64 ?_ ?_); (focus omega); conv => whnf)
        | ((with_reducible refine Nd.mk ?_ ?_); (focus (first | omega | rfl | assumption | (simp; done))); conv => whnf)
        | ((with_reducible refine Ix.arr ?_ ?_); (focus (omega)); conv => whnf)
        | (refine Ld.reg 2 rfl ?_ ?_; (focus (omega)); conv => whnf)
        | (refine St.reg 2 rfl ?_ ?_; (focus (omega)); conv => whnf)
        | ((with_reducible refine Cl.is (Try.refWord _ _ (hq _)) ?_); conv => whnf))
      refine ⟨k + 1, _, by kernel_rfl, by (exact Ent.rfl), ⟨by omega, hz⟩, by omega⟩
    · have e8 : k = 8 := by omega
      subst e8
      subst h2
      rw [wordsTo_8]
      conv => whnf
      repeat' (first
        | (first | ((with_reducible refine Br.nt ?_); conv => whnf) | ((with_reducible refine Br.dt ?_ ?_); (focus (first | assumption | omega)); conv => whnf) | ((with_reducible refine Br.df ?_ ?_); (focus (first | assumption | omega)); conv => whnf) | ((with_reducible refine Br.ndf ?_ ?_); (focus (first | assumption | omega)); conv => whnf))
        | ((with_reducible refine Ar.i64 ?_ ?_); (focus omega); conv => whnf)
        | ((with_reducible refine Nd.mk ?_ ?_); (focus (first | omega | rfl | assumption | (simp; done))); conv => whnf)
        | ((with_reducible refine Nc.go' (fun b => ?_)); conv => whnf)
        | ((with_reducible refine Ix.arr ?_ ?_); (focus (omega)); conv => whnf)
        | ((with_reducible refine Fk.mk ?_ ?_) <;> (conv => whnf))
        | (with_reducible exact True.intro)
        | (first | (refine Ld.reg 4 rfl ?_ ?_; (focus (omega)); conv => whnf) | (refine Ld.at 1 rfl rfl ?_; conv => whnf) | (refine Ld.at 2 rfl rfl ?_; conv => whnf) | (refine Ld.at 3 rfl rfl ?_; conv => whnf))
        | (first | (refine LdN.at 0 rfl (by first | exact Nat.le_of_ble_eq_true rfl | (simp; done)) ?_; conv => whnf) | (refine LdN.at 2 rfl (by first | exact Nat.le_of_ble_eq_true rfl | (simp; done)) ?_; conv => whnf) | (refine LdN.at 3 rfl (by first | exact Nat.le_of_ble_eq_true rfl | (simp; done)) ?_; conv => whnf) | (refine LdN.at 4 rfl (by first | exact Nat.le_of_ble_eq_true rfl | (simp; done)) ?_; conv => whnf))
        | (first | (refine St.reg 4 rfl ?_ ?_; (focus (omega)); conv => whnf) | (refine St.at 0 rfl (by first | exact Nat.le_of_ble_eq_true rfl | (simp; done)) rfl ?_; conv => whnf) | (refine St.at 2 rfl (by first | exact Nat.le_of_ble_eq_true rfl | (simp; done)) rfl ?_; conv => whnf) | (refine St.at 3 rfl (by first | exact Nat.le_of_ble_eq_true rfl | (simp; done)) rfl ?_; conv => whnf) | (refine St.at 4 rfl (by first | exact Nat.le_of_ble_eq_true rfl | (simp; done)) rfl ?_; conv => whnf))
        | ((with_reducible refine Dr.by (id := 40) Try.tysOk rfl [(0, 0), (2, 0), (4, 0), (5, 0), (7, 0), (11, 0), (1, 1), (3, 1), (6, 1), (8, 0), (9, 1), (10, 1), (12, 0), (13, 3)] ?_ ?_); (focus kernel_rfl); conv => whnf)
        | ((with_reducible refine Dr.tree (id := 50) Try.tysOk rfl (.one 0 0 (.one 3 0 (.one 1 1 (.fork 2 1 (.one 4 3 (.one 5 3 .nil)) (.fork 4 3 (.one 2 1 (.one 5 3 .nil)) .nil))))) ?_ _ ?_ (fun _ _ h => h)); (focus kernel_rfl); conv => whnf)
        | ((with_reducible refine CD.is (fun M => Try.refMade _ _ _ _ hrx hrn (by omega)) ?_); conv => whnf)
        | (first | ((with_reducible refine Cl.is (Try.refThereT _ _ _ _ _ _ (by omega) ⟨by omega, by omega⟩ (by omega) ⟨by omega, by omega⟩) ?_); conv => whnf) | ((with_reducible refine Cl.is (htx _ (by ((repeat (first | exact Rd.hd (by assumption) | apply Rd.cons)); done))) ?_); conv => whnf) | ((with_reducible refine Cl.is (hg _) ?_); conv => whnf)))
      all_goals (refine Exs.of (A, a, cp) (by (refine FEnt.ent ?_; (repeat (first | exact FEnt.rfl | (refine FEnt.at 5 rfl ?_; (try simp only [List.eraseIdx_cons_zero, List.eraseIdx_cons_succ, List.eraseIdx_zero, List.tail_cons])) | refine FEnt.drop ?_)); done)) (Bts.mk hrd Ent.rfl hc) rfl)
theorem Try.refStepC (A : HP) (a : Option Addr) (cp : Nat) (V : List UInt8) (pc : Int) (j : Nat) (r : Nat → Int) (L : List HP) (hV : V.length ≤ 16384) (hc : (ints V).length ≤ cp) (hr : ∀ i, I64 (r i)) (hrd : Rd intE [A] a (ints V))
    (hpj : pc = j) (ht : 0 ≤ (j : Int) ∧ (j : Int) + 4 ≤ V.length) (hi : insOk (at4 V j)) (hk : ¬ brkP V.length (insC (at4 V j)) (wordR r (insN (at4 V j)).toNat)) (hcc : insC (at4 V j) = 12 ∨ insC (at4 V j) = 13) :
    Con Try.prog 44 [.slice a (ints V).length cp, stV pc r 0] (A :: L) (Try.refPost A L (stepF ⟨V, pc, r, 0⟩)) := by
  subst hpj
  rw [stepF_ok ht hi hk]
  have hl := ints_len V
  have hw := wordR_ok r
  have hz : (at4 V j).size = 4 := mid_size (V := V) (k := j) (m := 4) (by omega)
  have hn2 := u8_lt (sAt (at4 V j) 2)
  have hmay : mayI (insC (at4 V j)) (insX (at4 V j)) (insN (at4 V j)) := hi
  have hg : ∀ L, Con Try.prog 54 [.string (at4 V j)] L (Is (.tuple #[insV (insC (at4 V j)) (insX (at4 V j)) (insN (at4 V j)), i64W 0]) L) := fun L => Try.refGet (at4 V j) L (by omega) (by omega) hi
  have htx : ∀ L, Rd intE L a (ints V) → Con Try.prog 34 [.slice a (ints V).length cp, i64V j, i64V 4] L (Is (.string (at4 V j)) L) := fun L h => Try.refTextB _ _ j 4 _ _ V _ (by omega) rfl rfl (by omega) h
  generalize insC (at4 V j) = c at *
  generalize insX (at4 V j) = x at *
  generalize insN (at4 V j) = n at *
  generalize at4 V j = t at *
  obtain ⟨c0, c1, x0, x1, n0, n1, n2, n3, n4⟩ := hmay
  have hrx := hw x.toNat
  have hrn := hw n.toNat
  have hgo : pcF j (wordR r) c x n = if goesP c (wordR r x.toNat) (wordR r 0) then n else (j : Int) + 4 := by unfold pcF; rw [if_neg (by omega)]
  rw [hgo]
  by_cases hgg : goesP c (wordR r x.toNat) (wordR r 0)
  all_goals
    first | rw [if_pos hgg] | rw [if_neg hgg]
    rcases hcc with rfl | rfl
    all_goals
      refine con_of Try.tysOk Try.func44 rfl rfl ?_
      conv => whnf
      refine Nc.go' (fun b3 => ?_)
      conv => whnf
      refine Nc.go' (fun b5 => ?_)
      conv => whnf
      refine Nc.go' (fun b6 => ?_)
      conv => whnf
      repeat' (first
        | ((with_reducible refine Br.ndf ?_ ?_); (focus (first | assumption | omega)); conv => whnf)
        | (refine Ld.at 2 rfl rfl ?_; conv => whnf))
      conv => whnf
      refine Lp.by2 Try.tysOk [7] (fun (k : Nat) (q : Nat → Int) => [.int .i64 k]) (fun k q => ptc b6 102 [i64W 0, i64W 0, i64W 0, i64W 0] :: ptc b5 42 (stC 0 (fun _ => 0) 0) :: ptc b3 42 (stC (j : Int) q 0) :: A :: L) (fun k q => k ≤ 8 ∧ q = wordsTo k r) (fun k q => 8 - k) (0) (r) (by kernel_rfl) (by (exact Ent.rfl)) (⟨by omega, wordsTo_0 r⟩) ?_
      rintro k q ⟨h1, h2⟩
      conv => whnf
      repeat (intro _; conv => whnf)
      have hq : ∀ i, I64 (q i) := fun i => by rw [h2]; exact wordsTo_I hr k i
      by_cases hk : k < 8
      · have hz : upd q k (q k % 65536) = wordsTo (k + 1) r := by rw [h2]; exact wordsTo_s k r
        conv => whnf
        repeat' (first
          | ((with_reducible refine Br.dt ?_ ?_); (focus (first | assumption | omega)); conv => whnf)
          | ((with_reducible refine Ar.i64 ?_ ?_); (focus omega); conv => whnf)
          | ((with_reducible refine Nd.mk ?_ ?_); (focus (first | omega | rfl | assumption | (simp; done))); conv => whnf)
          | ((with_reducible refine Ix.arr ?_ ?_); (focus (omega)); conv => whnf)
          | (refine Ld.reg 2 rfl ?_ ?_; (focus (omega)); conv => whnf)
          | (refine St.reg 2 rfl ?_ ?_; (focus (omega)); conv => whnf)
          | ((with_reducible refine Cl.is (Try.refWord _ _ (hq _)) ?_); conv => whnf))
        refine ⟨k + 1, _, by kernel_rfl, by (exact Ent.rfl), ⟨by omega, hz⟩, by omega⟩
      · have e8 : k = 8 := by omega
        subst e8
        subst h2
        rw [wordsTo_8]
        conv => whnf
        repeat' (first
          | (first | ((with_reducible refine Br.nt ?_); conv => whnf) | ((with_reducible refine Br.dt ?_ ?_); (focus (first | assumption | omega)); conv => whnf) | ((with_reducible refine Br.df ?_ ?_); (focus (first | assumption | omega)); conv => whnf) | ((with_reducible refine Br.ndf ?_ ?_); (focus (first | assumption | omega)); conv => whnf) | ((with_reducible refine Br.yes ?_ ?_); (focus (simp; omega)); conv => whnf) | ((with_reducible refine Br.no ?_ ?_); (focus (simp; omega)); conv => whnf))
          | ((with_reducible refine Ar.i64 ?_ ?_); (focus omega); conv => whnf)
          | ((with_reducible refine Nd.mk ?_ ?_); (focus (first | omega | rfl | assumption | (simp; done))); conv => whnf)
          | ((with_reducible refine Nc.go' (fun b => ?_)); conv => whnf)
          | ((with_reducible refine Ix.arr ?_ ?_); (focus (omega)); conv => whnf)
          | ((with_reducible refine Fk.mk ?_ ?_) <;> (conv => whnf))
          | (with_reducible exact True.intro)
          | (first | (refine Ld.reg 4 rfl ?_ ?_; (focus (omega)); conv => whnf) | (refine Ld.at 1 rfl rfl ?_; conv => whnf) | (refine Ld.at 2 rfl rfl ?_; conv => whnf) | (refine Ld.at 3 rfl rfl ?_; conv => whnf))
          | (first | (refine LdN.at 0 rfl (by first | exact Nat.le_of_ble_eq_true rfl | (simp; done)) ?_; conv => whnf) | (refine LdN.at 2 rfl (by first | exact Nat.le_of_ble_eq_true rfl | (simp; done)) ?_; conv => whnf) | (refine LdN.at 3 rfl (by first | exact Nat.le_of_ble_eq_true rfl | (simp; done)) ?_; conv => whnf) | (refine LdN.at 4 rfl (by first | exact Nat.le_of_ble_eq_true rfl | (simp; done)) ?_; conv => whnf))
          | (first | (refine St.at 0 rfl (by first | exact Nat.le_of_ble_eq_true rfl | (simp; done)) rfl ?_; conv => whnf) | (refine St.at 2 rfl (by first | exact Nat.le_of_ble_eq_true rfl | (simp; done)) rfl ?_; conv => whnf) | (refine St.at 3 rfl (by first | exact Nat.le_of_ble_eq_true rfl | (simp; done)) rfl ?_; conv => whnf) | (refine St.at 4 rfl (by first | exact Nat.le_of_ble_eq_true rfl | (simp; done)) rfl ?_; conv => whnf))
          | ((with_reducible refine Dr.tree (id := 50) Try.tysOk rfl (.one 0 0 (.one 3 0 (.one 1 1 (.fork 2 1 (.one 4 3 (.one 5 3 .nil)) (.fork 4 3 (.one 2 1 (.one 5 3 .nil)) .nil))))) ?_ _ ?_ (fun _ _ h => h)); (focus kernel_rfl); conv => whnf)
          | (first | ((with_reducible refine Cl.is (Try.refThereT _ _ _ _ _ _ (by omega) ⟨by omega, by omega⟩ (by omega) ⟨by omega, by omega⟩) ?_); conv => whnf) | ((with_reducible refine Cl.is (htx _ (by ((repeat (first | exact Rd.hd (by assumption) | apply Rd.cons)); done))) ?_); conv => whnf) | ((with_reducible refine Cl.is (hg _) ?_); conv => whnf)))
        all_goals (refine Exs.of (A, a, cp) (by (refine FEnt.ent ?_; (repeat (first | exact FEnt.rfl | (refine FEnt.at 5 rfl ?_; (try simp only [List.eraseIdx_cons_zero, List.eraseIdx_cons_succ, List.eraseIdx_zero, List.tail_cons])) | refine FEnt.drop ?_)); done)) (Bts.mk hrd Ent.rfl hc) rfl)
end Go.Proofs
