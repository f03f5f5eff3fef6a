/- The processor: the document's step, whole: a contract. -/
import Derived.Test.YtdjpcfaidgofoaaGreatCpuC
import Derived.Test.YtdjpcfaidgofoaaGreatRefMem
set_option linter.all false
namespace Go.Proofs
open Go.Eng
set_option linter.unusedVariables false
set_option maxRecDepth 100000
set_option maxHeartbeats 4000000
/-- registers, the first of them as words -/
def wordsTo (k : Nat) (r : Nat → Int) : Nat → Int := fun i => if i < k then r i % 65536 else r i
def wordR (r : Nat → Int) : Nat → Int := fun i => r i % 65536
theorem wordsTo_0 (r : Nat → Int) : r = wordsTo 0 r := by funext i; simp [wordsTo]
theorem wordsTo_s (k : Nat) (r : Nat → Int) : upd (wordsTo k r) k (wordsTo k r k % 65536) = wordsTo (k + 1) r := by
  funext i
  unfold upd wordsTo
  by_cases h : i = k
  · subst h; rw [if_pos rfl, if_neg (by omega), if_pos (by omega)]
  · rw [if_neg h]
    by_cases h2 : i < k
    · rw [if_pos h2, if_pos (by omega)]
    · rw [if_neg h2, if_neg (by omega)]
theorem wordsTo_8 (pc : Int) (r : Nat → Int) (m : Int) : stC pc (wordsTo 8 r) m = stC pc (wordR r) m := rfl
theorem wordR_ok (r : Nat → Int) : regOk (wordR r) := fun i => by unfold wordR; omega
theorem wordsTo_I {r : Nat → Int} (h : ∀ i, I64 (r i)) (k i : Nat) : I64 (wordsTo k r i) := by
  have := h i
  unfold wordsTo
  split
  · exact ⟨by omega, by omega⟩
  · exact this
/-- bytes and a state -/
structure Mch where
  V : List UInt8
  pc : Int
  r : Nat → Int
  m : Int
def at4 (V : List UInt8) (k : Nat) : ByteArray := ⟨((V.take (k + 4)).drop k).toArray⟩
def stepF (s : Mch) : Mch × Otp :=
  if s.m ≠ 0 then (s, (0, 0, 0, 0))
  else if ¬ (0 ≤ s.pc ∧ s.pc + 4 ≤ s.V.length) then (⟨s.V, s.pc, wordR s.r, 3⟩, (5, 0, 0, 6))
  else if ¬ insOk (at4 s.V s.pc.toNat) then (⟨s.V, s.pc, wordR s.r, 3⟩, (5, 0, 0, 12))
  else if brkP s.V.length (insC (at4 s.V s.pc.toNat)) (wordR s.r (insN (at4 s.V s.pc.toNat)).toNat) then (⟨s.V, s.pc, wordR s.r, 3⟩, (5, 0, 0, 6))
  else (⟨memF s.V (wordR s.r) (insC (at4 s.V s.pc.toNat)) (insX (at4 s.V s.pc.toNat)) (insN (at4 s.V s.pc.toNat)),
    pcF s.pc (wordR s.r) (insC (at4 s.V s.pc.toNat)) (insX (at4 s.V s.pc.toNat)) (insN (at4 s.V s.pc.toNat)),
    regF s.V (wordR s.r) (insC (at4 s.V s.pc.toNat)) (insX (at4 s.V s.pc.toNat)) (insN (at4 s.V s.pc.toNat)),
    modF s.m (insC (at4 s.V s.pc.toNat))⟩, outF (insC (at4 s.V s.pc.toNat)) (insX (at4 s.V s.pc.toNat)) (insN (at4 s.V s.pc.toNat)))
abbrev stO (s : Mch) : Value := stV s.pc s.r s.m
theorem outF_5 (c x n : Int) : ¬ (outF c x n).1 = 5 := by
  unfold outF
  repeat' split
  all_goals first | exact (by decide : ¬ (4 : Int) = 5) | exact (by decide : ¬ (3 : Int) = 5) | exact (by decide : ¬ (2 : Int) = 5) | exact (by decide : ¬ (1 : Int) = 5)
theorem Tryz.cpuStep (b : Nat) (pre V post : List UInt8) (base size pc m : Int) (r : Nat → Int) (L : List HP) (hb : base = pre.length) (hs : size = V.length) (hx : (pre ++ V ++ post).length ≤ 16384) (hr : ∀ i, I64 (r i)) :
    Con Tryz.prog 186 [viewV b base size, stV pc r m] (Tryz.memH b (pre ++ V ++ post) :: L)
      (Is (.tuple #[stO (stepF ⟨V, pc, r, m⟩).1, outV (stepF ⟨V, pc, r, m⟩).2]) (Tryz.memH b (pre ++ (stepF ⟨V, pc, r, m⟩).1.V ++ post) :: L)) := by
  have hxl : (pre ++ V ++ post).length = pre.length + V.length + post.length := by simp only [List.length_append]
  by_cases hm : m = 0
  · subst hm
    refine con_of Tryz.tysOk Tryz.func186 rfl rfl ?_
    conv => whnf
    refine Nc.go' (fun b1 => ?_)
    conv => whnf
    refine Nc.go' (fun b2 => ?_)
    conv => whnf
    refine Nc.go' (fun b3 => ?_)
    conv => whnf
    refine Nc.go' (fun b4 => ?_)
    conv => whnf
    repeat' (first
      | ((with_reducible refine Br.ndf ?_ ?_); (focus (first | assumption | omega)); conv => whnf)
      | (refine Ld.at 2 rfl rfl ?_; conv => whnf))
    conv => whnf
    refine Lp.by2 Tryz.tysOk [16] (fun (k : Nat) (q : Nat → Int) => [.int .i64 k]) (fun k q => ptc b4 340 [i64W 0, i64W 0, i64W 0, i64W 0] :: ptc b3 181 (stC 0 (fun _ => 0) 0) :: ptc b2 181 (stC pc q 0) :: ptc b1 85 [pV b, i64W base, i64W size] :: Tryz.memH b (pre ++ V ++ post) :: L) (fun k q => k ≤ 8 ∧ q = wordsTo k r) (fun k q => 8 - k) (0) (r) (by kernel_rfl) (by (exact Ent.rfl)) (⟨by omega, wordsTo_0 r⟩) ?_
    rintro k q ⟨h1, h2⟩
    conv => whnf
    repeat (intro _; conv => whnf)
    have hq : ∀ i, I64 (q i) := fun i => by rw [h2]; exact wordsTo_I hr k i
    by_cases hk : k < 8
    · have hz : upd q k (q k % 65536) = wordsTo (k + 1) r := by rw [h2]; exact wordsTo_s k r
      conv => whnf
      repeat' (first
        | ((with_reducible refine Br.dt ?_ ?_); (focus (first | assumption | omega)); conv => whnf)
        | ((with_reducible refine Ar.i64 ?_ ?_); (focus omega); conv => whnf)
        | ((with_reducible refine Nd.mk ?_ ?_); (focus (first | omega | rfl | assumption | (simp; done))); conv => whnf)
        | ((with_reducible refine Ix.arr ?_ ?_); (focus (omega)); conv => whnf)
        | (refine Ld.reg 2 rfl ?_ ?_; (focus (omega)); conv => whnf)
        | (refine St.reg 2 rfl ?_ ?_; (focus (omega)); conv => whnf)
        | ((with_reducible refine Cl.is (Tryz.cpuWord _ _ (hq _)) ?_); conv => whnf))
      refine ⟨k + 1, _, by kernel_rfl, by (exact Ent.rfl), ⟨by omega, hz⟩, by omega⟩
    · have e8 : k = 8 := by omega
      subst e8
      subst h2
      rw [wordsTo_8]
      have hw := wordR_ok r
      by_cases ht : 0 ≤ pc ∧ pc + 4 ≤ V.length
      · obtain ⟨j, rfl⟩ := Int.eq_ofNat_of_zero_le ht.1
        have hv := Tryz.viewText b pre V post base size j 4 j 4
        have hz := mid_size (V := V) (k := j) (m := 4) (by omega)
        by_cases hi : insOk (at4 V j)
        · have hmay : mayI (insC (at4 V j)) (insX (at4 V j)) (insN (at4 V j)) := hi
          have hn2 := u8_lt (sAt (at4 V j) 2)
          by_cases hk : brkP V.length (insC (at4 V j)) (wordR r (insN (at4 V j)).toNat)
          · have e : stepF ⟨V, (j : Int), r, 0⟩ = (⟨V, (j : Int), wordR r, 3⟩, (5, 0, 0, 6)) := by
              unfold stepF
              rw [if_neg (by simp), if_neg (fun h => h ht)]
              rw [Int.toNat_natCast, if_neg (fun h => h hi), if_pos hk]
            rw [e]
            have hd := Tryz.doNo b2 b base size (j : Int) 0 (insC (at4 V j)) (insX (at4 V j)) (insN (at4 V j)) (wordR r)
            have hg : ∀ L, Con Tryz.prog 225 [.string (at4 V j)] L (Is (.tuple #[insV (insC (at4 V j)) (insX (at4 V j)) (insN (at4 V j)), i64W 0]) L) := fun L => Tryz.codeGet (at4 V j) L (by unfold at4; omega) (by unfold at4; omega) hi
            have hv : ∀ L, Con Tryz.prog 224 [viewV b base size, i64W j, i64W 4] (Tryz.memH b (pre ++ V ++ post) :: L) (Is (.tuple #[.string (at4 V j), i64W 0]) (Tryz.memH b (pre ++ V ++ post) :: L)) := fun L => hv L hb hs hx rfl rfl (by omega)
            generalize pre ++ V ++ post = X at *
            generalize insC (at4 V j) = c at *
            generalize insX (at4 V j) = x at *
            generalize insN (at4 V j) = n at *
            generalize at4 V j = t at *
            conv => whnf
            repeat' (first
              | (first | ((with_reducible refine Br.dt ?_ ?_); (focus (first | assumption | omega)); conv => whnf) | ((with_reducible refine Br.df ?_ ?_); (focus (first | assumption | omega)); conv => whnf))
              | ((with_reducible refine Nd.mk ?_ ?_); (focus (first | omega | rfl | assumption | (simp; done))); conv => whnf)
              | ((with_reducible refine Nc.go' (fun b => ?_)); conv => whnf)
              | ((with_reducible refine Fk.mk ?_ ?_) <;> (conv => whnf))
              | (with_reducible exact True.intro)
              | (first | (refine Ld.at 0 rfl rfl ?_; conv => whnf) | (refine Ld.at 2 rfl rfl ?_; conv => whnf))
              | (first | (refine LdN.at 0 rfl (by first | exact Nat.le_of_ble_eq_true rfl | (simp; done)) ?_; conv => whnf) | (refine LdN.at 2 rfl (by first | exact Nat.le_of_ble_eq_true rfl | (simp; done)) ?_; conv => whnf) | (refine LdN.at 3 rfl (by first | exact Nat.le_of_ble_eq_true rfl | (simp; done)) ?_; conv => whnf) | (refine LdN.at 4 rfl (by first | exact Nat.le_of_ble_eq_true rfl | (simp; done)) ?_; conv => whnf))
              | (first | (refine St.at 0 rfl (by first | exact Nat.le_of_ble_eq_true rfl | (simp; done)) rfl ?_; conv => whnf) | (refine St.at 2 rfl (by first | exact Nat.le_of_ble_eq_true rfl | (simp; done)) rfl ?_; conv => whnf) | (refine St.at 3 rfl (by first | exact Nat.le_of_ble_eq_true rfl | (simp; done)) rfl ?_; conv => whnf) | (refine St.at 4 rfl (by first | exact Nat.le_of_ble_eq_true rfl | (simp; done)) rfl ?_; conv => whnf))
              | ((with_reducible refine Dr.tree (id := 16) Tryz.tysOk rfl (.one 0 1 (.fork 1 1 (.one 2 3 (.one 3 3 .nil)) (.fork 2 3 (.one 1 1 (.one 3 3 .nil)) .nil))) ?_ _ ?_ (fun _ _ h => h)); (focus kernel_rfl); conv => whnf)
              | (first | ((refine Cl.isAt 4 rfl (hv _) ?_); conv => whnf) | ((with_reducible refine Cl.is (hg _) ?_); conv => whnf) | ((refine Cl.isAt 3 rfl (hd _ ⟨by omega, by omega⟩ ⟨by omega, by omega⟩ hmay hw (by rw [hs]; exact hk)) ?_); conv => whnf)))
            all_goals (refine Is.ent ?_ ?_; (focus (refine FEnt.ent ?_; (repeat (first | exact FEnt.rfl | (refine FEnt.at 6 rfl ?_; (try simp only [List.eraseIdx_cons_zero, List.eraseIdx_cons_succ, List.eraseIdx_zero, List.tail_cons])) | refine FEnt.drop ?_)); done)); (exact Is.rfl))
          · have e : stepF ⟨V, (j : Int), r, 0⟩ = (⟨memF V (wordR r) (insC (at4 V j)) (insX (at4 V j)) (insN (at4 V j)), pcF j (wordR r) (insC (at4 V j)) (insX (at4 V j)) (insN (at4 V j)), regF V (wordR r) (insC (at4 V j)) (insX (at4 V j)) (insN (at4 V j)), modF 0 (insC (at4 V j))⟩, outF (insC (at4 V j)) (insX (at4 V j)) (insN (at4 V j))) := by
              unfold stepF
              rw [if_neg (by simp), if_neg (fun h => h ht)]
              rw [Int.toNat_natCast, if_neg (fun h => h hi), if_neg hk]
            rw [e]
            have hd := Tryz.doOk b2 b pre V post base size (j : Int) 0 (insC (at4 V j)) (insX (at4 V j)) (insN (at4 V j)) (wordR r)
            have h5 := outF_5 (insC (at4 V j)) (insX (at4 V j)) (insN (at4 V j))
            have hg : ∀ L, Con Tryz.prog 225 [.string (at4 V j)] L (Is (.tuple #[insV (insC (at4 V j)) (insX (at4 V j)) (insN (at4 V j)), i64W 0]) L) := fun L => Tryz.codeGet (at4 V j) L (by unfold at4; omega) (by unfold at4; omega) hi
            have hv : ∀ L, Con Tryz.prog 224 [viewV b base size, i64W j, i64W 4] (Tryz.memH b (pre ++ V ++ post) :: L) (Is (.tuple #[.string (at4 V j), i64W 0]) (Tryz.memH b (pre ++ V ++ post) :: L)) := fun L => hv L hb hs hx rfl rfl (by omega)
            dsimp only
            generalize pre ++ V ++ post = X at *
            generalize pre ++ memF V (wordR r) (insC (at4 V j)) (insX (at4 V j)) (insN (at4 V j)) ++ post = Y at *
            generalize insC (at4 V j) = c at *
            generalize insX (at4 V j) = x at *
            generalize insN (at4 V j) = n at *
            generalize at4 V j = t at *
            conv => whnf
            repeat' (first
              | (first | ((with_reducible refine Br.dt ?_ ?_); (focus (first | assumption | omega)); conv => whnf) | ((with_reducible refine Br.df ?_ ?_); (focus (first | assumption | omega)); conv => whnf))
              | ((with_reducible refine Nd.mk ?_ ?_); (focus (first | omega | rfl | assumption | (simp; done))); conv => whnf)
              | ((with_reducible refine Nc.go' (fun b => ?_)); conv => whnf)
              | ((with_reducible refine Fk.mk ?_ ?_) <;> (conv => whnf))
              | (with_reducible exact True.intro)
              | (first | (refine Ld.at 0 rfl rfl ?_; conv => whnf) | (refine Ld.at 2 rfl rfl ?_; conv => whnf))
              | (first | (refine LdN.at 0 rfl (by first | exact Nat.le_of_ble_eq_true rfl | (simp; done)) ?_; conv => whnf) | (refine LdN.at 1 rfl (by first | exact Nat.le_of_ble_eq_true rfl | (simp; done)) ?_; conv => whnf) | (refine LdN.at 3 rfl (by first | exact Nat.le_of_ble_eq_true rfl | (simp; done)) ?_; conv => whnf) | (refine LdN.at 4 rfl (by first | exact Nat.le_of_ble_eq_true rfl | (simp; done)) ?_; conv => whnf) | (refine LdN.at 5 rfl (by first | exact Nat.le_of_ble_eq_true rfl | (simp; done)) ?_; conv => whnf))
              | (first | (refine St.at 0 rfl (by first | exact Nat.le_of_ble_eq_true rfl | (simp; done)) rfl ?_; conv => whnf) | (refine St.at 4 rfl (by first | exact Nat.le_of_ble_eq_true rfl | (simp; done)) rfl ?_; conv => whnf) | (refine St.at 5 rfl (by first | exact Nat.le_of_ble_eq_true rfl | (simp; done)) rfl ?_; conv => whnf))
              | ((with_reducible refine Dr.tree (id := 16) Tryz.tysOk rfl (.one 0 1 (.fork 1 1 (.one 2 3 (.one 3 3 .nil)) (.fork 2 3 (.one 1 1 (.one 3 3 .nil)) .nil))) ?_ _ ?_ (fun _ _ h => h)); (focus kernel_rfl); conv => whnf)
              | (first | ((refine Cl.isAt 4 rfl (hv _) ?_); conv => whnf) | ((with_reducible refine Cl.is (hg _) ?_); conv => whnf) | ((refine Cl.isAt2 3 4 rfl rfl (hd _ hb hs hx hmay hw ⟨by omega, by omega⟩ hk) ?_); conv => whnf)))
            all_goals (refine Is.ent ?_ ?_; (focus (refine FEnt.ent ?_; (repeat (first | exact FEnt.rfl | (refine FEnt.at 2 rfl ?_; (try simp only [List.eraseIdx_cons_zero, List.eraseIdx_cons_succ, List.eraseIdx_zero, List.tail_cons])) | refine FEnt.drop ?_)); done)); (exact Is.rfl))
        · have e : stepF ⟨V, (j : Int), r, 0⟩ = (⟨V, (j : Int), wordR r, 3⟩, (5, 0, 0, 12)) := by
            unfold stepF
            rw [if_neg (by simp), if_neg (fun h => h ht)]
            rw [Int.toNat_natCast, if_pos hi]
          rw [e]
          have hg : ∀ L, Con Tryz.prog 225 [.string (at4 V j)] L (Is (.tuple #[insV 0 0 0, i64W 12]) L) := fun L => Tryz.codeGetNo (at4 V j) L (by unfold at4; omega) (by unfold at4; omega) hi
          have hv : ∀ L, Con Tryz.prog 224 [viewV b base size, i64W j, i64W 4] (Tryz.memH b (pre ++ V ++ post) :: L) (Is (.tuple #[.string (at4 V j), i64W 0]) (Tryz.memH b (pre ++ V ++ post) :: L)) := fun L => hv L hb hs hx rfl rfl (by omega)
          generalize pre ++ V ++ post = X at *
          generalize at4 V j = t at *
          conv => whnf
          repeat' (first
            | (first | ((with_reducible refine Br.dt ?_ ?_); (focus (first | assumption | omega)); conv => whnf) | ((with_reducible refine Br.df ?_ ?_); (focus (first | assumption | omega)); conv => whnf))
            | ((with_reducible refine Nd.mk ?_ ?_); (focus (first | omega | rfl | assumption | (simp; done))); conv => whnf)
            | ((with_reducible refine Nc.go' (fun b => ?_)); conv => whnf)
            | (refine Ld.at 2 rfl rfl ?_; conv => whnf)
            | (first | (refine LdN.at 1 rfl (by first | exact Nat.le_of_ble_eq_true rfl | (simp; done)) ?_; conv => whnf) | (refine LdN.at 2 rfl (by first | exact Nat.le_of_ble_eq_true rfl | (simp; done)) ?_; conv => whnf) | (refine LdN.at 3 rfl (by first | exact Nat.le_of_ble_eq_true rfl | (simp; done)) ?_; conv => whnf))
            | (first | (refine St.at 0 rfl (by first | exact Nat.le_of_ble_eq_true rfl | (simp; done)) rfl ?_; conv => whnf) | (refine St.at 1 rfl (by first | exact Nat.le_of_ble_eq_true rfl | (simp; done)) rfl ?_; conv => whnf) | (refine St.at 2 rfl (by first | exact Nat.le_of_ble_eq_true rfl | (simp; done)) rfl ?_; conv => whnf) | (refine St.at 3 rfl (by first | exact Nat.le_of_ble_eq_true rfl | (simp; done)) rfl ?_; conv => whnf))
            | (first | ((refine Cl.isAt 4 rfl (hv _) ?_); conv => whnf) | ((with_reducible refine Cl.is (hg _) ?_); conv => whnf)))
          all_goals (refine Is.ent ?_ ?_; (focus (refine FEnt.ent ?_; (repeat (first | exact FEnt.rfl | (refine FEnt.at 5 rfl ?_; (try simp only [List.eraseIdx_cons_zero, List.eraseIdx_cons_succ, List.eraseIdx_zero, List.tail_cons])) | refine FEnt.drop ?_)); done)); (exact Is.rfl))
      · have e : stepF ⟨V, pc, r, 0⟩ = (⟨V, pc, wordR r, 3⟩, (5, 0, 0, 6)) := by
          unfold stepF
          rw [if_neg (by simp), if_pos ht]
        rw [e]
        dsimp only
        generalize pre ++ V ++ post = X at *
        conv => whnf
        repeat' (first
          | ((with_reducible refine Br.df ?_ ?_); (focus (first | assumption | omega)); conv => whnf)
          | ((with_reducible refine Nd.mk ?_ ?_); (focus (first | omega | rfl | assumption | (simp; done))); conv => whnf)
          | (refine Ld.at 2 rfl rfl ?_; conv => whnf)
          | (first | (refine LdN.at 0 rfl (by first | exact Nat.le_of_ble_eq_true rfl | (simp; done)) ?_; conv => whnf) | (refine LdN.at 1 rfl (by first | exact Nat.le_of_ble_eq_true rfl | (simp; done)) ?_; conv => whnf) | (refine LdN.at 2 rfl (by first | exact Nat.le_of_ble_eq_true rfl | (simp; done)) ?_; conv => whnf) | (refine LdN.at 3 rfl (by first | exact Nat.le_of_ble_eq_true rfl | (simp; done)) ?_; conv => whnf))
          | (first | (refine St.at 0 rfl (by first | exact Nat.le_of_ble_eq_true rfl | (simp; done)) rfl ?_; conv => whnf) | (refine St.at 1 rfl (by first | exact Nat.le_of_ble_eq_true rfl | (simp; done)) rfl ?_; conv => whnf) | (refine St.at 2 rfl (by first | exact Nat.le_of_ble_eq_true rfl | (simp; done)) rfl ?_; conv => whnf))
          | ((with_reducible refine Cl.is (Tryz.viewTextNo _ _ _ _ _ _ ⟨by omega, by omega⟩ ⟨by omega, by omega⟩ ⟨by omega, by omega⟩ (by rw [hs]; exact ht)) ?_); conv => whnf))
        all_goals (refine Is.ent ?_ ?_; (focus (refine FEnt.ent ?_; (repeat (first | exact FEnt.rfl | (refine FEnt.at 4 rfl ?_; (try simp only [List.eraseIdx_cons_zero, List.eraseIdx_cons_succ, List.eraseIdx_zero, List.tail_cons])) | refine FEnt.drop ?_)); done)); (exact Is.rfl))
  · have e : stepF ⟨V, pc, r, m⟩ = (⟨V, pc, r, m⟩, (0, 0, 0, 0)) := by
      unfold stepF
      rw [if_pos hm]
    rw [e]
    dsimp only
    generalize pre ++ V ++ post = X at *
    refine con_of Tryz.tysOk Tryz.func186 rfl rfl ?_
    conv => whnf
    repeat' (first
      | ((with_reducible refine Br.ndt ?_ ?_); (focus (first | assumption | omega)); conv => whnf)
      | ((with_reducible refine Nd.mk ?_ ?_); (focus (first | omega | rfl | assumption | (simp; done))); conv => whnf)
      | ((with_reducible refine Nc.go' (fun b => ?_)); conv => whnf)
      | (refine Ld.at 2 rfl rfl ?_; conv => whnf)
      | (first | (refine LdN.at 0 rfl (by first | exact Nat.le_of_ble_eq_true rfl | (simp; done)) ?_; conv => whnf) | (refine LdN.at 1 rfl (by first | exact Nat.le_of_ble_eq_true rfl | (simp; done)) ?_; conv => whnf) | (refine LdN.at 2 rfl (by first | exact Nat.le_of_ble_eq_true rfl | (simp; done)) ?_; conv => whnf))
      | (first | (refine St.at 0 rfl (by first | exact Nat.le_of_ble_eq_true rfl | (simp; done)) rfl ?_; conv => whnf) | (refine St.at 1 rfl (by first | exact Nat.le_of_ble_eq_true rfl | (simp; done)) rfl ?_; conv => whnf)))
    all_goals (refine Is.ent ?_ ?_; (focus (refine FEnt.ent ?_; (repeat (first | exact FEnt.rfl | (refine FEnt.at 4 rfl ?_; (try simp only [List.eraseIdx_cons_zero, List.eraseIdx_cons_succ, List.eraseIdx_zero, List.tail_cons])) | refine FEnt.drop ?_)); done)); (exact Is.rfl))
end Go.Proofs
set_option linter.all false
namespace Go.Proofs
open Go.Eng
set_option linter.unusedVariables false
set_option maxRecDepth 100000
set_option maxHeartbeats 600000
/-- a deed -/
abbrev Deed := Int × Int × Int × ByteArray
def deedE : Enc Deed := ⟨4, fun d => [i64V d.1, i64V d.2.1, i64V d.2.2.1, .string d.2.2.2], (0, 0, 0, ByteArray.empty), fun _ => rfl, by omega, fun _ => rfl⟩
abbrev deedV (d : Deed) : Value := .agg #[i64V d.1, i64V d.2.1, i64V d.2.2.1, .string d.2.2.2]
abbrev deedI (d : Deed) : Prop := I64 d.1 ∧ I64 d.2.1 ∧ I64 d.2.2.1
/-- the bytes that a deed writes -/
def deedB (d : Deed) : List UInt8 := if d.1 = 0 then [u8of d.2.2.1] else if d.1 = 1 then putB d.2.2.1 else d.2.2.2.data.toList
def wroteF (xs : List UInt8) (d : Deed) : List UInt8 := if thr xs.length d.2.1 (deedB d).length then lay xs d.2.1.toNat (deedB d) else xs
theorem wroteF_len (xs : List UInt8) (d : Deed) : (wroteF xs d).length = xs.length := by
  unfold wroteF
  split
  · rename_i h; rw [lay_len (by unfold thr at h; omega)]
  · rfl
/-- the document's bytes, and what is beside them: as before, or with more -/
structure Bts (A : HP) (xs : List UInt8) (x : HP × Option Addr × Nat) : Prop where
  read : Rd intE [x.1] x.2.1 (ints xs)
  keeps : Ent [x.1] [A]
  cap : (ints xs).length ≤ x.2.2
theorem lay_one {α : Type} {xs : List α} {k : Nat} {x : α} (h : k < xs.length) : lay xs k [x] = xs.set k x := by
  unfold lay
  rw [List.set_eq_take_append_cons_drop, if_pos h]
  simp
end Go.Proofs
set_option linter.all false
namespace Go.Proofs
open Go.Eng
set_option linter.unusedVariables false
set_option maxRecDepth 100000
set_option maxHeartbeats 4000000
theorem bAt_lt (V : List UInt8) (k : Nat) : 0 ≤ bAt V k ∧ bAt V k ≤ 255 := ⟨Int.natCast_nonneg _, u8_lt _⟩
end Go.Proofs
set_option linter.all false
namespace Go.Proofs
open Go.Eng
set_option linter.unusedVariables false
set_option maxRecDepth 100000
set_option maxHeartbeats 8000000
theorem stepF_brk {V : List UInt8} {pc : Int} {r : Nat → Int} (ht : ¬ (0 ≤ pc ∧ pc + 4 ≤ V.length)) : stepF ⟨V, pc, r, 0⟩ = (⟨V, pc, wordR r, 3⟩, (5, 0, 0, 6)) := by
  unfold stepF
  rw [if_neg (by simp), if_pos ht]
theorem stepF_bad {V : List UInt8} {j : Nat} {r : Nat → Int} (ht : 0 ≤ (j : Int) ∧ (j : Int) + 4 ≤ V.length) (hi : ¬ insOk (at4 V j)) : stepF ⟨V, (j : Int), r, 0⟩ = (⟨V, (j : Int), wordR r, 3⟩, (5, 0, 0, 12)) := by
  unfold stepF
  rw [if_neg (by simp), if_neg (fun h => h ht)]
  rw [Int.toNat_natCast, if_pos hi]
theorem stepF_no {V : List UInt8} {j : Nat} {r : Nat → Int} (ht : 0 ≤ (j : Int) ∧ (j : Int) + 4 ≤ V.length) (hi : insOk (at4 V j)) (hk : brkP V.length (insC (at4 V j)) (wordR r (insN (at4 V j)).toNat)) : stepF ⟨V, (j : Int), r, 0⟩ = (⟨V, (j : Int), wordR r, 3⟩, (5, 0, 0, 6)) := by
  unfold stepF
  rw [if_neg (by simp), if_neg (fun h => h ht)]
  rw [Int.toNat_natCast, if_neg (fun h => h hi), if_pos hk]
theorem stepF_ok {V : List UInt8} {j : Nat} {r : Nat → Int} (ht : 0 ≤ (j : Int) ∧ (j : Int) + 4 ≤ V.length) (hi : insOk (at4 V j)) (hk : ¬ brkP V.length (insC (at4 V j)) (wordR r (insN (at4 V j)).toNat)) :
    stepF ⟨V, (j : Int), r, 0⟩ = (⟨memF V (wordR r) (insC (at4 V j)) (insX (at4 V j)) (insN (at4 V j)), pcF j (wordR r) (insC (at4 V j)) (insX (at4 V j)) (insN (at4 V j)), regF V (wordR r) (insC (at4 V j)) (insX (at4 V j)) (insN (at4 V j)), modF 0 (insC (at4 V j))⟩, outF (insC (at4 V j)) (insX (at4 V j)) (insN (at4 V j))) := by
  unfold stepF
  rw [if_neg (by simp), if_neg (fun h => h ht)]
  rw [Int.toNat_natCast, if_neg (fun h => h hi), if_neg hk]
/-- what the document's step leaves -/
abbrev Tryz.refPost (A : HP) (L : List HP) (s : Mch × Otp) : Value → List HP → Prop :=
  Exs (fun x : HP × Option Addr × Nat => .tuple #[.slice x.2.1 (ints s.1.V).length x.2.2, stO s.1, outV s.2]) (fun x => x.1 :: L) (Bts A s.1.V)
end Go.Proofs
set_option linter.all false
namespace Go.Proofs
open Go.Eng
set_option linter.unusedVariables false
set_option maxRecDepth 100000
set_option maxHeartbeats 8000000
end Go.Proofs
set_option linter.all false
namespace Go.Proofs
open Go.Eng
set_option linter.unusedVariables false
set_option maxRecDepth 100000
set_option maxHeartbeats 8000000
end Go.Proofs
