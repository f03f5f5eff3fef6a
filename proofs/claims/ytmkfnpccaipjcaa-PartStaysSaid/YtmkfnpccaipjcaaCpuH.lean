/- The processor: the document's step, whole: a contract. -/
import Derived.Test.YtmkfnpccaipjcaaCpuG
set_option linter.all false
namespace Go.Proofs
open Go.Eng
set_option linter.unusedVariables false
set_option maxRecDepth 100000
set_option maxHeartbeats 8000000
theorem Try.refStep7 (A : HP) (a : Option Addr) (cp : Nat) (V : List UInt8) (pc : Int) (j : Nat) (r : Nat → Int) (L : List HP) (hV : V.length ≤ 16384) (hc : (ints V).length ≤ cp) (hr : ∀ i, I64 (r i)) (hrd : Rd intE [A] a (ints V))
    (hpj : pc = j) (ht : 0 ≤ (j : Int) ∧ (j : Int) + 4 ≤ V.length) (hi : insOk (at4 V j)) (hk : ¬ brkP V.length (insC (at4 V j)) (wordR r (insN (at4 V j)).toNat)) (hcc : insC (at4 V j) = 7) :
    Con Try.prog 44 [.slice a (ints V).length cp, stV pc r 0] (A :: L) (Try.refPost A L (stepF ⟨V, pc, r, 0⟩)) := by
  subst hpj
  rw [stepF_ok ht hi hk]
  have hl := ints_len V
  have hw := wordR_ok r
  have hz : (at4 V j).size = 4 := mid_size (V := V) (k := j) (m := 4) (by omega)
  have hn2 := u8_lt (sAt (at4 V j) 2)
  have hmay : mayI (insC (at4 V j)) (insX (at4 V j)) (insN (at4 V j)) := hi
  have hg : ∀ L, Con Try.prog 54 [.string (at4 V j)] L (Is (.tuple #[insV (insC (at4 V j)) (insX (at4 V j)) (insN (at4 V j)), i64W 0]) L) := fun L => Try.refGet (at4 V j) L (by omega) (by omega) hi
  have htx : ∀ L, Rd intE L a (ints V) → Con Try.prog 34 [.slice a (ints V).length cp, i64V j, i64V 4] L (Is (.string (at4 V j)) L) := fun L h => Try.refTextB _ _ j 4 _ _ V _ (by omega) rfl rfl (by omega) h
  generalize insC (at4 V j) = c at *
  generalize insX (at4 V j) = x at *
  generalize insN (at4 V j) = n at *
  generalize at4 V j = t at *
  obtain ⟨c0, c1, x0, x1, n0, n1, n2, n3, n4⟩ := hmay
  have hrx := hw x.toNat
  have hrn := hw n.toNat
  subst hcc
  have hk' : 0 ≤ wordR r n.toNat ∧ wordR r n.toNat + 1 ≤ V.length := Classical.not_not.1 fun h => hk ⟨by omega, by omega, h⟩
  refine con_of Try.tysOk Try.func44 rfl rfl ?_
  conv => whnf
  refine Nc.go' (fun b3 => ?_)
  conv => whnf
  refine Nc.go' (fun b5 => ?_)
  conv => whnf
  refine Nc.go' (fun b6 => ?_)
  conv => whnf
  repeat' (first
    | ((with_reducible refine Br.ndf ?_ ?_); (focus (first | assumption | omega)); conv => whnf)
    | (refine Ld.at 2 rfl rfl ?_; conv => whnf))
  conv => whnf
  refine Lp.by2 Try.tysOk [7] (fun (k : Nat) (q : Nat → Int) => [.int .i64 k]) (fun k q => ptc b6 102 [i64W 0, i64W 0, i64W 0, i64W 0] :: ptc b5 42 (stC 0 (fun _ => 0) 0) :: ptc b3 42 (stC (j : Int) q 0) :: A :: L) (fun k q => k ≤ 8 ∧ q = wordsTo k r) (fun k q => 8 - k) (0) (r) (by kernel_rfl) (by (exact Ent.rfl)) (⟨by omega, wordsTo_0 r⟩) ?_
  rintro k q ⟨h1, h2⟩
  conv => whnf
  repeat (intro _; conv => whnf)
  have hq : ∀ i, I64 (q i) := fun i => by rw [h2]; exact wordsTo_I hr k i
  by_cases hk : k < 8
  · have hz : upd q k (q k % 65536) = wordsTo (k + 1) r := by rw [h2]; exact wordsTo_s k r
    conv => whnf
    repeat' (first
      | ((with_reducible refine Br.dt ?_ ?_); (focus (first | assumption | omega)); conv => whnf)
      | ((with_reducible refine Ar.i64 ?_ ?_); (focus omega); conv => whnf)
      | ((with_reducible refine Nd.mk ?_ ?_); (focus (first | omega | rfl | assumption | (simp; done))); conv => whnf)
      | ((with_reducible refine Ix.arr ?_ ?_); (focus (omega)); conv => whnf)
      | (refine Ld.reg 2 rfl ?_ ?_; (focus (omega)); conv => whnf)
      | (refine St.reg 2 rfl ?_ ?_; (focus (omega)); conv => whnf)
      | ((with_reducible refine Cl.is (Try.refWord _ _ (hq _)) ?_); conv => whnf))
    refine ⟨k + 1, _, by kernel_rfl, by (exact Ent.rfl), ⟨by omega, hz⟩, by omega⟩
  · have e8 : k = 8 := by omega
    subst e8
    subst h2
    rw [wordsTo_8]
    conv => whnf
    repeat' (first
      | (first | ((with_reducible refine Br.nt ?_); conv => whnf) | ((with_reducible refine Br.df ?_ ?_); (focus (first | assumption | omega)); conv => whnf) | ((with_reducible refine Br.ndf ?_ ?_); (focus (first | assumption | omega)); conv => whnf))
      | ((with_reducible refine Ar.i64 ?_ ?_); (focus omega); conv => whnf)
      | ((with_reducible refine Nd.mk ?_ ?_); (focus (first | omega | rfl | assumption | (simp; done))); conv => whnf)
      | ((with_reducible refine Nc.go' (fun b => ?_)); conv => whnf)
      | ((with_reducible refine Ix.arr ?_ ?_); (focus (omega)); conv => whnf)
      | ((with_reducible refine Fk.mk ?_ ?_) <;> (conv => whnf))
      | (with_reducible exact True.intro)
      | (first | (refine Ld.reg 4 rfl ?_ ?_; (focus (omega)); conv => whnf) | (refine Ld.at 1 rfl rfl ?_; conv => whnf) | (refine Ld.at 2 rfl rfl ?_; conv => whnf) | (refine Ld.at 3 rfl rfl ?_; conv => whnf))
      | (first | (refine LdN.at 0 rfl (by first | exact Nat.le_of_ble_eq_true rfl | (simp; done)) ?_; conv => whnf) | (refine LdN.at 1 rfl (by first | exact Nat.le_of_ble_eq_true rfl | (simp; done)) ?_; conv => whnf) | (refine LdN.at 3 rfl (by first | exact Nat.le_of_ble_eq_true rfl | (simp; done)) ?_; conv => whnf) | (refine LdN.at 4 rfl (by first | exact Nat.le_of_ble_eq_true rfl | (simp; done)) ?_; conv => whnf) | (refine LdN.at 5 rfl (by first | exact Nat.le_of_ble_eq_true rfl | (simp; done)) ?_; conv => whnf))
      | (first | (refine St.at 0 rfl (by first | exact Nat.le_of_ble_eq_true rfl | (simp; done)) rfl ?_; conv => whnf) | (refine St.at 3 rfl (by first | exact Nat.le_of_ble_eq_true rfl | (simp; done)) rfl ?_; conv => whnf) | (refine St.at 4 rfl (by first | exact Nat.le_of_ble_eq_true rfl | (simp; done)) rfl ?_; conv => whnf) | (refine St.at 5 rfl (by first | exact Nat.le_of_ble_eq_true rfl | (simp; done)) rfl ?_; conv => whnf))
      | ((with_reducible refine Dr.tree (id := 50) Try.tysOk rfl (.one 0 0 (.one 3 0 (.one 1 1 (.fork 2 1 (.one 4 3 (.one 5 3 .nil)) (.fork 4 3 (.one 2 1 (.one 5 3 .nil)) .nil))))) ?_ _ ?_ (fun _ _ h => h)); (focus kernel_rfl); conv => whnf)
      | (first | ((with_reducible refine Cl.is (Try.refThereT _ _ _ _ _ _ (by omega) ⟨by omega, by omega⟩ (by omega) ⟨by omega, by omega⟩) ?_); conv => whnf) | ((with_reducible refine Cl.is (htx _ (by ((repeat (first | exact Rd.hd (by assumption) | apply Rd.cons)); done))) ?_); conv => whnf) | ((with_reducible refine Cl.is (hg _) ?_); conv => whnf) | ((with_reducible refine Cl.is (Try.refAcc7 _ _ V _ _ _ _ _ _ hV (by ((repeat (first | exact Rd.hd (by assumption) | apply Rd.cons)); done)) ⟨by omega, by omega⟩ ⟨by omega, by omega⟩ hw hk') ?_); conv => whnf)))
    all_goals (refine Exs.of (A, a, cp) (by (refine FEnt.ent ?_; (repeat (first | exact FEnt.rfl | (refine FEnt.at 6 rfl ?_; (try simp only [List.eraseIdx_cons_zero, List.eraseIdx_cons_succ, List.eraseIdx_zero, List.tail_cons])) | refine FEnt.drop ?_)); done)) (Bts.mk hrd Ent.rfl hc) rfl)
theorem Try.refStep9 (A : HP) (a : Option Addr) (cp : Nat) (V : List UInt8) (pc : Int) (j : Nat) (r : Nat → Int) (L : List HP) (hV : V.length ≤ 16384) (hc : (ints V).length ≤ cp) (hr : ∀ i, I64 (r i)) (hrd : Rd intE [A] a (ints V))
    (hpj : pc = j) (ht : 0 ≤ (j : Int) ∧ (j : Int) + 4 ≤ V.length) (hi : insOk (at4 V j)) (hk : ¬ brkP V.length (insC (at4 V j)) (wordR r (insN (at4 V j)).toNat)) (hcc : insC (at4 V j) = 9) :
    Con Try.prog 44 [.slice a (ints V).length cp, stV pc r 0] (A :: L) (Try.refPost A L (stepF ⟨V, pc, r, 0⟩)) := by
  subst hpj
  rw [stepF_ok ht hi hk]
  have hl := ints_len V
  have hw := wordR_ok r
  have hz : (at4 V j).size = 4 := mid_size (V := V) (k := j) (m := 4) (by omega)
  have hn2 := u8_lt (sAt (at4 V j) 2)
  have hmay : mayI (insC (at4 V j)) (insX (at4 V j)) (insN (at4 V j)) := hi
  have hg : ∀ L, Con Try.prog 54 [.string (at4 V j)] L (Is (.tuple #[insV (insC (at4 V j)) (insX (at4 V j)) (insN (at4 V j)), i64W 0]) L) := fun L => Try.refGet (at4 V j) L (by omega) (by omega) hi
  have htx : ∀ L, Rd intE L a (ints V) → Con Try.prog 34 [.slice a (ints V).length cp, i64V j, i64V 4] L (Is (.string (at4 V j)) L) := fun L h => Try.refTextB _ _ j 4 _ _ V _ (by omega) rfl rfl (by omega) h
  generalize insC (at4 V j) = c at *
  generalize insX (at4 V j) = x at *
  generalize insN (at4 V j) = n at *
  generalize at4 V j = t at *
  obtain ⟨c0, c1, x0, x1, n0, n1, n2, n3, n4⟩ := hmay
  have hrx := hw x.toNat
  have hrn := hw n.toNat
  subst hcc
  have hk' : 0 ≤ wordR r n.toNat ∧ wordR r n.toNat + 2 ≤ V.length := Classical.not_not.1 fun h => hk ⟨by omega, by omega, h⟩
  refine con_of Try.tysOk Try.func44 rfl rfl ?_
  conv => whnf
  refine Nc.go' (fun b3 => ?_)
  conv => whnf
  refine Nc.go' (fun b5 => ?_)
  conv => whnf
  refine Nc.go' (fun b6 => ?_)
  conv => whnf
  repeat' (first
    | ((with_reducible refine Br.ndf ?_ ?_); (focus (first | assumption | omega)); conv => whnf)
    | (refine Ld.at 2 rfl rfl ?_; conv => whnf))
  conv => whnf
  refine Lp.by2 Try.tysOk [7] (fun (k : Nat) (q : Nat → Int) => [.int .i64 k]) (fun k q => ptc b6 102 [i64W 0, i64W 0, i64W 0, i64W 0] :: ptc b5 42 (stC 0 (fun _ => 0) 0) :: ptc b3 42 (stC (j : Int) q 0) :: A :: L) (fun k q => k ≤ 8 ∧ q = wordsTo k r) (fun k q => 8 - k) (0) (r) (by kernel_rfl) (by (exact Ent.rfl)) (⟨by omega, wordsTo_0 r⟩) ?_
  rintro k q ⟨h1, h2⟩
  conv => whnf
  repeat (intro _; conv => whnf)
  have hq : ∀ i, I64 (q i) := fun i => by rw [h2]; exact wordsTo_I hr k i
  by_cases hk : k < 8
  · have hz : upd q k (q k % 65536) = wordsTo (k + 1) r := by rw [h2]; exact wordsTo_s k r
    conv => whnf
    repeat' (first
      | ((with_reducible refine Br.dt ?_ ?_); (focus (first | assumption | omega)); conv => whnf)
      | ((with_reducible refine Ar.i64 ?_ ?_); (focus omega); conv => whnf)
      | ((with_reducible refine Nd.mk ?_ ?_); (focus (first | omega | rfl | assumption | (simp; done))); conv => whnf)
      | ((with_reducible refine Ix.arr ?_ ?_); (focus (omega)); conv => whnf)
      | (refine Ld.reg 2 rfl ?_ ?_; (focus (omega)); conv => whnf)
      | (refine St.reg 2 rfl ?_ ?_; (focus (omega)); conv => whnf)
      | ((with_reducible refine Cl.is (Try.refWord _ _ (hq _)) ?_); conv => whnf))
    refine ⟨k + 1, _, by kernel_rfl, by (exact Ent.rfl), ⟨by omega, hz⟩, by omega⟩
  · have e8 : k = 8 := by omega
    subst e8
    subst h2
    rw [wordsTo_8]
    conv => whnf
    repeat' (first
      | (first | ((with_reducible refine Br.nt ?_); conv => whnf) | ((with_reducible refine Br.df ?_ ?_); (focus (first | assumption | omega)); conv => whnf) | ((with_reducible refine Br.ndf ?_ ?_); (focus (first | assumption | omega)); conv => whnf))
      | ((with_reducible refine Ar.i64 ?_ ?_); (focus omega); conv => whnf)
      | ((with_reducible refine Nd.mk ?_ ?_); (focus (first | omega | rfl | assumption | (simp; done))); conv => whnf)
      | ((with_reducible refine Nc.go' (fun b => ?_)); conv => whnf)
      | ((with_reducible refine Ix.arr ?_ ?_); (focus (omega)); conv => whnf)
      | ((with_reducible refine Fk.mk ?_ ?_) <;> (conv => whnf))
      | (with_reducible exact True.intro)
      | (first | (refine Ld.reg 4 rfl ?_ ?_; (focus (omega)); conv => whnf) | (refine Ld.at 1 rfl rfl ?_; conv => whnf) | (refine Ld.at 2 rfl rfl ?_; conv => whnf) | (refine Ld.at 3 rfl rfl ?_; conv => whnf))
      | (first | (refine LdN.at 0 rfl (by first | exact Nat.le_of_ble_eq_true rfl | (simp; done)) ?_; conv => whnf) | (refine LdN.at 1 rfl (by first | exact Nat.le_of_ble_eq_true rfl | (simp; done)) ?_; conv => whnf) | (refine LdN.at 3 rfl (by first | exact Nat.le_of_ble_eq_true rfl | (simp; done)) ?_; conv => whnf) | (refine LdN.at 4 rfl (by first | exact Nat.le_of_ble_eq_true rfl | (simp; done)) ?_; conv => whnf) | (refine LdN.at 5 rfl (by first | exact Nat.le_of_ble_eq_true rfl | (simp; done)) ?_; conv => whnf))
      | (first | (refine St.at 0 rfl (by first | exact Nat.le_of_ble_eq_true rfl | (simp; done)) rfl ?_; conv => whnf) | (refine St.at 3 rfl (by first | exact Nat.le_of_ble_eq_true rfl | (simp; done)) rfl ?_; conv => whnf) | (refine St.at 4 rfl (by first | exact Nat.le_of_ble_eq_true rfl | (simp; done)) rfl ?_; conv => whnf) | (refine St.at 5 rfl (by first | exact Nat.le_of_ble_eq_true rfl | (simp; done)) rfl ?_; conv => whnf))
      | ((with_reducible refine Dr.tree (id := 50) Try.tysOk rfl (.one 0 0 (.one 3 0 (.one 1 1 (.fork 2 1 (.one 4 3 (.one 5 3 .nil)) (.fork 4 3 (.one 2 1 (.one 5 3 .nil)) .nil))))) ?_ _ ?_ (fun _ _ h => h)); (focus kernel_rfl); conv => whnf)
      | (first | ((with_reducible refine Cl.is (Try.refThereT _ _ _ _ _ _ (by omega) ⟨by omega, by omega⟩ (by omega) ⟨by omega, by omega⟩) ?_); conv => whnf) | ((with_reducible refine Cl.is (htx _ (by ((repeat (first | exact Rd.hd (by assumption) | apply Rd.cons)); done))) ?_); conv => whnf) | ((with_reducible refine Cl.is (hg _) ?_); conv => whnf) | ((with_reducible refine Cl.is (Try.refAcc9 _ _ V _ _ _ _ _ _ hV (by ((repeat (first | exact Rd.hd (by assumption) | apply Rd.cons)); done)) ⟨by omega, by omega⟩ ⟨by omega, by omega⟩ hw hk') ?_); conv => whnf)))
    all_goals (refine Exs.of (A, a, cp) (by (refine FEnt.ent ?_; (repeat (first | exact FEnt.rfl | (refine FEnt.at 6 rfl ?_; (try simp only [List.eraseIdx_cons_zero, List.eraseIdx_cons_succ, List.eraseIdx_zero, List.tail_cons])) | refine FEnt.drop ?_)); done)) (Bts.mk hrd Ent.rfl hc) rfl)
theorem Try.refStepW (A : HP) (a : Option Addr) (cp : Nat) (V : List UInt8) (pc : Int) (j : Nat) (r : Nat → Int) (L : List HP) (hV : V.length ≤ 16384) (hc : (ints V).length ≤ cp) (hr : ∀ i, I64 (r i)) (hrd : Rd intE [A] a (ints V))
    (hpj : pc = j) (ht : 0 ≤ (j : Int) ∧ (j : Int) + 4 ≤ V.length) (hi : insOk (at4 V j)) (hk : ¬ brkP V.length (insC (at4 V j)) (wordR r (insN (at4 V j)).toNat)) (hcc : insC (at4 V j) = 8 ∨ insC (at4 V j) = 10) :
    Con Try.prog 44 [.slice a (ints V).length cp, stV pc r 0] (A :: L) (Try.refPost A L (stepF ⟨V, pc, r, 0⟩)) := by
  subst hpj
  rw [stepF_ok ht hi hk]
  have hl := ints_len V
  have hw := wordR_ok r
  have hz : (at4 V j).size = 4 := mid_size (V := V) (k := j) (m := 4) (by omega)
  have hn2 := u8_lt (sAt (at4 V j) 2)
  have hmay : mayI (insC (at4 V j)) (insX (at4 V j)) (insN (at4 V j)) := hi
  have hg : ∀ L, Con Try.prog 54 [.string (at4 V j)] L (Is (.tuple #[insV (insC (at4 V j)) (insX (at4 V j)) (insN (at4 V j)), i64W 0]) L) := fun L => Try.refGet (at4 V j) L (by omega) (by omega) hi
  have htx : ∀ L, Rd intE L a (ints V) → Con Try.prog 34 [.slice a (ints V).length cp, i64V j, i64V 4] L (Is (.string (at4 V j)) L) := fun L h => Try.refTextB _ _ j 4 _ _ V _ (by omega) rfl rfl (by omega) h
  generalize insC (at4 V j) = c at *
  generalize insX (at4 V j) = x at *
  generalize insN (at4 V j) = n at *
  generalize at4 V j = t at *
  obtain ⟨c0, c1, x0, x1, n0, n1, n2, n3, n4⟩ := hmay
  have hrx := hw x.toNat
  have hrn := hw n.toNat
  have hk' : 0 ≤ wordR r n.toNat ∧ wordR r n.toNat + accN c ≤ V.length := Classical.not_not.1 fun h => hk ⟨by omega, by omega, h⟩
  have ha := fun L h => Try.refAccW a cp V (j : Int) 0 c x n (wordR r) L hV h ⟨by omega, by omega⟩ ⟨by omega, by omega⟩ hw hcc hk'
  generalize memF V (wordR r) c x n = W at *
  rcases hcc with rfl | rfl
  all_goals
    refine con_of Try.tysOk Try.func44 rfl rfl ?_
    conv => whnf
    refine Nc.go' (fun b3 => ?_)
    conv => whnf
    refine Nc.go' (fun b5 => ?_)
    conv => whnf
    refine Nc.go' (fun b6 => ?_)
    conv => whnf
    repeat' (first
      | ((with_reducible refine Br.ndf ?_ ?_); (focus (first | assumption | omega)); conv => whnf)
      | (refine Ld.at 2 rfl rfl ?_; conv => whnf))
    conv => whnf
    refine Lp.by2 Try.tysOk [7] (fun (k : Nat) (q : Nat → Int) => [.int .i64 k]) (fun k q => ptc b6 102 [i64W 0, i64W 0, i64W 0, i64W 0] :: ptc b5 42 (stC 0 (fun _ => 0) 0) :: ptc b3 42 (stC (j : Int) q 0) :: A :: L) (fun k q => k ≤ 8 ∧ q = wordsTo k r) (fun k q => 8 - k) (0) (r) (by kernel_rfl) (by (exact Ent.rfl)) (⟨by omega, wordsTo_0 r⟩) ?_
    rintro k q ⟨h1, h2⟩
    conv => whnf
    repeat (intro _; conv => whnf)
    have hq : ∀ i, I64 (q i) := fun i => by rw [h2]; exact wordsTo_I hr k i
    by_cases hk : k < 8
    · have hz : upd q k (q k % 65536) = wordsTo (k + 1) r := by rw [h2]; exact wordsTo_s k r
      conv => whnf
      repeat' (first
        | ((with_reducible refine Br.dt ?_ ?_); (focus (first | assumption | omega)); conv => whnf)
        | ((with_reducible refine Ar.i64 ?_ ?_); (focus omega); conv => whnf)
        | ((with_reducible refine Nd.mk ?_ ?_); (focus (first | omega | rfl | assumption | (simp; done))); conv => whnf)
        | ((with_reducible refine Ix.arr ?_ ?_); (focus (omega)); conv => whnf)
        | (refine Ld.reg 2 rfl ?_ ?_; (focus (omega)); conv => whnf)
        | (refine St.reg 2 rfl ?_ ?_; (focus (omega)); conv => whnf)
        | ((with_reducible refine Cl.is (Try.refWord _ _ (hq _)) ?_); conv => whnf))
      refine ⟨k + 1, _, by kernel_rfl, by (exact Ent.rfl), ⟨by omega, hz⟩, by omega⟩
    · have e8 : k = 8 := by omega
      subst e8
      subst h2
      rw [wordsTo_8]
      conv => whnf
      repeat' (first
        | (first | ((with_reducible refine Br.nt ?_); conv => whnf) | ((with_reducible refine Br.df ?_ ?_); (focus (first | assumption | omega)); conv => whnf) | ((with_reducible refine Br.ndf ?_ ?_); (focus (first | assumption | omega)); conv => whnf))
        | ((with_reducible refine Ar.i64 ?_ ?_); (focus omega); conv => whnf)
        | ((with_reducible refine Nd.mk ?_ ?_); (focus (first | omega | rfl | assumption | (simp; done))); conv => whnf)
        | ((with_reducible refine Nc.go' (fun b => ?_)); conv => whnf)
        | ((with_reducible refine Ix.arr ?_ ?_); (focus (omega)); conv => whnf)
        | ((with_reducible refine Fk.mk ?_ ?_) <;> (conv => whnf))
        | (with_reducible exact True.intro)
        | (first | (refine Ld.reg 4 rfl ?_ ?_; (focus (omega)); conv => whnf) | (refine Ld.at 1 rfl rfl ?_; conv => whnf) | (refine Ld.at 2 rfl rfl ?_; conv => whnf) | (refine Ld.at 3 rfl rfl ?_; conv => whnf))
        | (first | (refine LdN.at 0 rfl (by first | exact Nat.le_of_ble_eq_true rfl | (simp; done)) ?_; conv => whnf) | (refine LdN.at 1 rfl (by first | exact Nat.le_of_ble_eq_true rfl | (simp; done)) ?_; conv => whnf) | (refine LdN.at 2 rfl (by first | exact Nat.le_of_ble_eq_true rfl | (simp; done)) ?_; conv => whnf) | (refine LdN.at 4 rfl (by first | exact Nat.le_of_ble_eq_true rfl | (simp; done)) ?_; conv => whnf) | (refine LdN.at 5 rfl (by first | exact Nat.le_of_ble_eq_true rfl | (simp; done)) ?_; conv => whnf) | (refine LdN.at 6 rfl (by first | exact Nat.le_of_ble_eq_true rfl | (simp; done)) ?_; conv => whnf))
        | (first | (refine St.at 0 rfl (by first | exact Nat.le_of_ble_eq_true rfl | (simp; done)) rfl ?_; conv => whnf) | (refine St.at 4 rfl (by first | exact Nat.le_of_ble_eq_true rfl | (simp; done)) rfl ?_; conv => whnf) | (refine St.at 5 rfl (by first | exact Nat.le_of_ble_eq_true rfl | (simp; done)) rfl ?_; conv => whnf) | (refine St.at 6 rfl (by first | exact Nat.le_of_ble_eq_true rfl | (simp; done)) rfl ?_; conv => whnf))
        | ((with_reducible refine Dr.tree (id := 50) Try.tysOk rfl (.one 0 0 (.one 3 0 (.one 1 1 (.fork 2 1 (.one 4 3 (.one 5 3 .nil)) (.fork 4 3 (.one 2 1 (.one 5 3 .nil)) .nil))))) ?_ _ ?_ (fun _ _ h => h)); (focus kernel_rfl); conv => whnf)
        | (first | ((with_reducible refine Cl.is (Try.refThereT _ _ _ _ _ _ (by omega) ⟨by omega, by omega⟩ (by omega) ⟨by omega, by omega⟩) ?_); conv => whnf) | ((with_reducible refine Cl.is (htx _ (by ((repeat (first | exact Rd.hd (by assumption) | apply Rd.cons)); done))) ?_); conv => whnf) | ((with_reducible refine Cl.is (hg _) ?_); conv => whnf))
        | ((refine Cl.exs (ha _ (by ((repeat (first | assumption | exact Rd.hd (by assumption) | apply Rd.cons)); done))) ?_; rintro ⟨a3, c3⟩ ⟨hc3, had3⟩; dsimp only at hc3 had3); conv => whnf))
      all_goals (exact Exs.of (star A (own intE 3 a3 c3 _), a3, c3) (by dsimp only; (refine FEnt.ent ?_; (repeat (first | exact FEnt.rfl | (refine FEnt.at 0 rfl ?_; (try simp only [List.eraseIdx_cons_zero, List.eraseIdx_cons_succ, List.eraseIdx_zero, List.tail_cons])) | (refine FEnt.at 6 rfl ?_; (try simp only [List.eraseIdx_cons_zero, List.eraseIdx_cons_succ, List.eraseIdx_zero, List.tail_cons])) | refine FEnt.star ?_ | refine FEnt.drop ?_)); done)) (Bts.mk ((Rd.own 0 rfl had3).ent ent_star2) ent_star1 hc3) rfl)
theorem Try.refStepN (A : HP) (a : Option Addr) (cp : Nat) (V : List UInt8) (pc : Int) (j : Nat) (r : Nat → Int) (L : List HP) (hV : V.length ≤ 16384) (hc : (ints V).length ≤ cp) (hr : ∀ i, I64 (r i)) (hrd : Rd intE [A] a (ints V))
    (hpj : pc = j) (ht : 0 ≤ (j : Int) ∧ (j : Int) + 4 ≤ V.length) (hi : insOk (at4 V j)) (hk : brkP V.length (insC (at4 V j)) (wordR r (insN (at4 V j)).toNat)) (hcc : 7 ≤ insC (at4 V j) ∧ insC (at4 V j) ≤ 10) :
    Con Try.prog 44 [.slice a (ints V).length cp, stV pc r 0] (A :: L) (Try.refPost A L (stepF ⟨V, pc, r, 0⟩)) := by
  subst hpj
  rw [stepF_no ht hi hk]
  have hl := ints_len V
  have hw := wordR_ok r
  have hz : (at4 V j).size = 4 := mid_size (V := V) (k := j) (m := 4) (by omega)
  have hn2 := u8_lt (sAt (at4 V j) 2)
  have hmay : mayI (insC (at4 V j)) (insX (at4 V j)) (insN (at4 V j)) := hi
  have hg : ∀ L, Con Try.prog 54 [.string (at4 V j)] L (Is (.tuple #[insV (insC (at4 V j)) (insX (at4 V j)) (insN (at4 V j)), i64W 0]) L) := fun L => Try.refGet (at4 V j) L (by omega) (by omega) hi
  have htx : ∀ L, Rd intE L a (ints V) → Con Try.prog 34 [.slice a (ints V).length cp, i64V j, i64V 4] L (Is (.string (at4 V j)) L) := fun L h => Try.refTextB _ _ j 4 _ _ V _ (by omega) rfl rfl (by omega) h
  generalize insC (at4 V j) = c at *
  generalize insX (at4 V j) = x at *
  generalize insN (at4 V j) = n at *
  generalize at4 V j = t at *
  obtain ⟨c0, c1, x0, x1, n0, n1, n2, n3, n4⟩ := hmay
  have hrx := hw x.toNat
  have hrn := hw n.toNat
  have ha := fun L => Try.refAccNo a cp V (j : Int) 0 c x n (wordR r) L hV ⟨by omega, by omega⟩ ⟨by omega, by omega⟩ hw (by omega) hk.2.2
  have hc4 : c = 7 ∨ c = 8 ∨ c = 9 ∨ c = 10 := by omega
  clear hcc hk
  rcases hc4 with rfl | rfl | rfl | rfl
  all_goals
    refine con_of Try.tysOk Try.func44 rfl rfl ?_
    conv => whnf
    refine Nc.go' (fun b3 => ?_)
    conv => whnf
    refine Nc.go' (fun b5 => ?_)
    conv => whnf
    refine Nc.go' (fun b6 => ?_)
    conv => whnf
    repeat' (first
      | ((with_reducible refine Br.ndf ?_ ?_); (focus (first | assumption | omega)); conv => whnf)
      | (refine Ld.at 2 rfl rfl ?_; conv => whnf))
    conv => whnf
    refine Lp.by2 Try.tysOk [7] (fun (k : Nat) (q : Nat → Int) => [.int .i64 k]) (fun k q => ptc b6 102 [i64W 0, i64W 0, i64W 0, i64W 0] :: ptc b5 42 (stC 0 (fun _ => 0) 0) :: ptc b3 42 (stC (j : Int) q 0) :: A :: L) (fun k q => k ≤ 8 ∧ q = wordsTo k r) (fun k q => 8 - k) (0) (r) (by kernel_rfl) (by (exact Ent.rfl)) (⟨by omega, wordsTo_0 r⟩) ?_
    rintro k q ⟨h1, h2⟩
    conv => whnf
    repeat (intro _; conv => whnf)
    have hq : ∀ i, I64 (q i) := fun i => by rw [h2]; exact wordsTo_I hr k i
    by_cases hk : k < 8
    · have hz : upd q k (q k % 65536) = wordsTo (k + 1) r := by rw [h2]; exact wordsTo_s k r
      conv => whnf
      repeat' (first
        | ((with_reducible refine Br.dt ?_ ?_); (focus (first | assumption | omega)); conv => whnf)
        | ((with_reducible refine Ar.i64 ?_ ?_); (focus omega); conv => whnf)
        | ((with_reducible refine Nd.mk ?_ ?_); (focus (first | omega | rfl | assumption | (simp; done))); conv => whnf)
        | ((with_reducible refine Ix.arr ?_ ?_); (focus (omega)); conv => whnf)
        | (refine Ld.reg 2 rfl ?_ ?_; (focus (omega)); conv => whnf)
        | (refine St.reg 2 rfl ?_ ?_; (focus (omega)); conv => whnf)
        | ((with_reducible refine Cl.is (Try.refWord _ _ (hq _)) ?_); conv => whnf))
      refine ⟨k + 1, _, by kernel_rfl, by (exact Ent.rfl), ⟨by omega, hz⟩, by omega⟩
    · have e8 : k = 8 := by omega
      subst e8
      subst h2
      rw [wordsTo_8]
      conv => whnf
      repeat' (first
        | (first | ((with_reducible refine Br.nt ?_); conv => whnf) | ((with_reducible refine Br.nf ?_); conv => whnf) | ((with_reducible refine Br.df ?_ ?_); (focus (first | assumption | omega)); conv => whnf) | ((with_reducible refine Br.ndf ?_ ?_); (focus (first | assumption | omega)); conv => whnf))
        | ((with_reducible refine Ar.i64 ?_ ?_); (focus omega); conv => whnf)
        | ((with_reducible refine Nd.mk ?_ ?_); (focus (first | omega | rfl | assumption | (simp; done))); conv => whnf)
        | ((with_reducible refine Nc.go' (fun b => ?_)); conv => whnf)
        | ((with_reducible refine Ix.arr ?_ ?_); (focus (omega)); conv => whnf)
        | ((with_reducible refine Fk.mk ?_ ?_) <;> (conv => whnf))
        | (with_reducible exact True.intro)
        | (first | (refine Ld.reg 4 rfl ?_ ?_; (focus (omega)); conv => whnf) | (refine Ld.at 1 rfl rfl ?_; conv => whnf) | (refine Ld.at 2 rfl rfl ?_; conv => whnf) | (refine Ld.at 3 rfl rfl ?_; conv => whnf))
        | (first | (refine LdN.at 0 rfl (by first | exact Nat.le_of_ble_eq_true rfl | (simp; done)) ?_; conv => whnf) | (refine LdN.at 1 rfl (by first | exact Nat.le_of_ble_eq_true rfl | (simp; done)) ?_; conv => whnf) | (refine LdN.at 4 rfl (by first | exact Nat.le_of_ble_eq_true rfl | (simp; done)) ?_; conv => whnf) | (refine LdN.at 5 rfl (by first | exact Nat.le_of_ble_eq_true rfl | (simp; done)) ?_; conv => whnf) | (refine LdN.at 6 rfl (by first | exact Nat.le_of_ble_eq_true rfl | (simp; done)) ?_; conv => whnf))
        | (first | (refine St.at 0 rfl (by first | exact Nat.le_of_ble_eq_true rfl | (simp; done)) rfl ?_; conv => whnf) | (refine St.at 1 rfl (by first | exact Nat.le_of_ble_eq_true rfl | (simp; done)) rfl ?_; conv => whnf) | (refine St.at 5 rfl (by first | exact Nat.le_of_ble_eq_true rfl | (simp; done)) rfl ?_; conv => whnf) | (refine St.at 6 rfl (by first | exact Nat.le_of_ble_eq_true rfl | (simp; done)) rfl ?_; conv => whnf))
        | ((with_reducible refine Dr.tree (id := 21) Try.tysOk rfl (.one 0 0 (.one 3 0 (.one 1 1 (.fork 2 1 (.one 4 3 (.one 5 3 .nil)) (.fork 4 3 (.one 2 1 (.one 5 3 .nil)) .nil))))) ?_ _ ?_ (fun _ _ h => h)); (focus kernel_rfl); conv => whnf)
        | (first | ((with_reducible refine Cl.is (Try.refThereT _ _ _ _ _ _ (by omega) ⟨by omega, by omega⟩ (by omega) ⟨by omega, by omega⟩) ?_); conv => whnf) | ((with_reducible refine Cl.is (htx _ (by ((repeat (first | exact Rd.hd (by assumption) | apply Rd.cons)); done))) ?_); conv => whnf) | ((with_reducible refine Cl.is (hg _) ?_); conv => whnf) | ((with_reducible refine Cl.is (ha _) ?_); conv => whnf) | ((with_reducible refine Cl.is (Try.refBreaks _ _ _ _ _) ?_); conv => whnf)))
      all_goals (refine Exs.of (A, a, cp) (by (refine FEnt.ent ?_; (repeat (first | exact FEnt.rfl | (refine FEnt.at 6 rfl ?_; (try simp only [List.eraseIdx_cons_zero, List.eraseIdx_cons_succ, List.eraseIdx_zero, List.tail_cons])) | refine FEnt.drop ?_)); done)) (Bts.mk hrd Ent.rfl hc) rfl)
/-- the document's step -/
theorem Try.refStep (A : HP) (a : Option Addr) (cp : Nat) (s : Mch) (L : List HP) (hV : s.V.length ≤ 16384) (hc : (ints s.V).length ≤ cp) (hpc : I64 s.pc) (hr : ∀ i, I64 (s.r i)) (hrd : Rd intE [A] a (ints s.V)) :
    Con Try.prog 44 [.slice a (ints s.V).length cp, stO s] (A :: L) (Try.refPost A L (stepF s)) := by
  obtain ⟨V, pc, r, m⟩ := s
  dsimp only at *
  by_cases hm : m = 0
  · subst hm
    by_cases ht : 0 ≤ pc ∧ pc + 4 ≤ V.length
    · obtain ⟨j, rfl⟩ := Int.eq_ofNat_of_zero_le ht.1
      by_cases hi : insOk (at4 V j)
      · have hmay : mayI (insC (at4 V j)) (insX (at4 V j)) (insN (at4 V j)) := hi
        by_cases hk : brkP V.length (insC (at4 V j)) (wordR r (insN (at4 V j)).toNat)
        · exact Try.refStepN A a cp V _ j r L hV hc hr hrd rfl ht hi hk ⟨hk.1, hk.2.1⟩
        · have cc : (insC (at4 V j) = 0 ∨ insC (at4 V j) = 1 ∨ insC (at4 V j) = 2 ∨ insC (at4 V j) = 14 ∨ insC (at4 V j) = 15 ∨ insC (at4 V j) = 11) ∨ (insC (at4 V j) = 3 ∨ insC (at4 V j) = 4 ∨ insC (at4 V j) = 5 ∨ insC (at4 V j) = 6) ∨ (insC (at4 V j) = 12 ∨ insC (at4 V j) = 13) ∨ insC (at4 V j) = 7 ∨ insC (at4 V j) = 9 ∨ (insC (at4 V j) = 8 ∨ insC (at4 V j) = 10) := by
            have h1 := hmay.1
            have h2 := hmay.2.1
            omega
          rcases cc with h | h | h | h | h | h
          · exact Try.refStepA A a cp V _ j r L hV hc hr hrd rfl ht hi hk h
          · exact Try.refStepB A a cp V _ j r L hV hc hr hrd rfl ht hi hk h
          · exact Try.refStepC A a cp V _ j r L hV hc hr hrd rfl ht hi hk h
          · exact Try.refStep7 A a cp V _ j r L hV hc hr hrd rfl ht hi hk h
          · exact Try.refStep9 A a cp V _ j r L hV hc hr hrd rfl ht hi hk h
          · exact Try.refStepW A a cp V _ j r L hV hc hr hrd rfl ht hi hk h
      · exact Try.refStepBad A a cp V _ r L hV hc hpc hr hrd (.inr ⟨j, rfl, ht.1, ht.2, hi⟩)
    · exact Try.refStepBad A a cp V _ r L hV hc hpc hr hrd (.inl ht)
  · have e : stepF ⟨V, pc, r, m⟩ = (⟨V, pc, r, m⟩, (0, 0, 0, 0)) := by
      unfold stepF
      rw [if_pos hm]
    rw [e]
    refine con_of Try.tysOk Try.func44 rfl rfl ?_
    conv => whnf
    repeat' (first
      | ((with_reducible refine Br.ndt ?_ ?_); (focus (first | assumption | omega)); conv => whnf)
      | ((with_reducible refine Nd.mk ?_ ?_); (focus (first | omega | rfl | assumption | (simp; done))); conv => whnf)
      | ((with_reducible refine Nc.go' (fun b => ?_)); conv => whnf)
      | (refine Ld.at 2 rfl rfl ?_; conv => whnf)
      | (first | (refine LdN.at 0 rfl (by first | exact Nat.le_of_ble_eq_true rfl | (simp; done)) ?_; conv => whnf) | (refine LdN.at 1 rfl (by first | exact Nat.le_of_ble_eq_true rfl | (simp; done)) ?_; conv => whnf) | (refine LdN.at 2 rfl (by first | exact Nat.le_of_ble_eq_true rfl | (simp; done)) ?_; conv => whnf))
      | (first | (refine St.at 0 rfl (by first | exact Nat.le_of_ble_eq_true rfl | (simp; done)) rfl ?_; conv => whnf) | (refine St.at 1 rfl (by first | exact Nat.le_of_ble_eq_true rfl | (simp; done)) rfl ?_; conv => whnf))
      | ((with_reducible refine Dr.by (id := 2) Try.tysOk rfl [(0, 0), (2, 0), (3, 0), (1, 1), (4, 3), (5, 3)] ?_ ?_); (focus kernel_rfl); conv => whnf))
    all_goals (refine Exs.of (A, a, cp) (by (refine FEnt.ent ?_; (repeat (first | exact FEnt.rfl | (refine FEnt.at 3 rfl ?_; (try simp only [List.eraseIdx_cons_zero, List.eraseIdx_cons_succ, List.eraseIdx_zero, List.tail_cons])) | refine FEnt.drop ?_)); done)) (Bts.mk hrd Ent.rfl hc) rfl)
end Go.Proofs
