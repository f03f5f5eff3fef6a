/- The assembler prints instructions: contracts. -/
import Derived.Test.YtloaknocdnpedaaGreatDoorAsmW
set_option linter.all false
namespace Go.Proofs
open Go.Eng Go.RowKit
open Classical
set_option linter.unusedVariables false
set_option maxRecDepth 100000
set_option maxHeartbeats 4000000
def inE : Enc (Int × Int × Int) := ⟨3, fun y => [u8W y.1, i64W y.2.1, i64W y.2.2], (0, 0, 0), fun _ => rfl, by omega, fun _ => rfl⟩
/-- an instruction as words -/
noncomputable def inWs (y : Int × Int × Int) : List ByteArray := insWs y.1.toNat y.2.1.toNat y.2.2.toNat (decB y.2.2.toNat)
noncomputable def inT (y : Int × Int × Int) : List UInt8 := joinW (inWs y) ++ [10]
noncomputable def prF (l : List (Int × Int × Int)) : List UInt8 := l.flatMap fun y => if mayI y.1 y.2.1 y.2.2 then inT y else []
theorem join_W : ∀ (w : ByteArray) (r : List ByteArray), Lib.join ((w :: r).map (·.data.toList)) [32] = joinW (w :: r)
  | w, [] => by rw [List.map_cons, List.map_nil, Lib.join_one]; rfl
  | w, v :: r => by
    have ih := join_W v r
    rw [List.map_cons, Lib.join_cons] at ih ⊢
    rw [joinW_c, ← ih, List.map_cons]
    simp [Lib.joinTail]
theorem name_code {c : Int} : codeN c.toNat = nameF c := rfl
theorem name_sz {c : Int} (h : 0 ≤ c ∧ c ≤ 15) : (nameF c).size ≤ 6 := by
  have key : ∀ i : Fin 16, (codeN i.val).size ≤ 6 := by decide +kernel
  have := key ⟨c.toNat, by omega⟩
  exact this
theorem joinW_len : ∀ (r : List ByteArray), (∀ w ∈ r, w.size ≤ 6) → (joinW r).length ≤ 7 * r.length
  | [], h => by simp [joinW]
  | [w], h => by
    have h1 := h w (by simp)
    show w.data.toList.length ≤ 7
    rw [size_list]
    omega
  | w :: v :: r, h => by
    have ih := joinW_len (v :: r) fun w hw => h w (by simp [hw])
    have h1 := h w (by simp)
    have h2 := size_list w
    rw [joinW_c, List.length_append, List.length_cons, List.length_cons]
    rw [List.length_cons] at ih ⊢
    omega
theorem insWs_len {c x n : Nat} {last : ByteArray} (h : mayN c x n) (hl : last.size ≤ 6) : (joinW (insWs c x n last)).length ≤ 21 := by
  have z1 : (codeN c).size ≤ 6 := by
    have key : ∀ i : Fin 16, (codeN i.val).size ≤ 6 := by decide +kernel
    have := key ⟨c, by have := h.1; omega⟩
    exact this
  have zx : (decB x).size ≤ 5 := dec_len 4 _ (by have := h.2.1; omega)
  have zn : (decB n).size ≤ 5 := dec_len 4 _ (by have := h.2.2.1; omega)
  have zr : ∀ n : Nat, (regB n).size = (decB n).size + 1 := fun n => by rw [bsL_size, bsL_size, List.length_cons]
  have hw : ∀ w ∈ insWs c x n last, w.size ≤ 6 := fun w hw => by
    unfold insWs at hw
    rcases List.mem_append.1 hw with hw | hw
    · rcases List.mem_append.1 hw with hw | hw
      · rw [List.mem_singleton.1 hw]; exact z1
      · split at hw
        · rw [List.mem_singleton.1 hw, zr]; omega
        · exact absurd hw (by simp)
    · split at hw
      · rw [List.mem_singleton.1 hw, zr]; omega
      · split at hw
        · rw [List.mem_singleton.1 hw]; exact hl
        · exact absurd hw (by simp)
  have hl : (insWs c x n last).length ≤ 3 := by
    unfold insWs
    rw [List.length_append, List.length_append]
    split <;> split <;> (try split) <;> simp
  have := joinW_len _ hw
  omega
theorem Tryz.asmPrint (a : Option Addr) (c : Nat) (l : List (Int × Int × Int)) (L : List HP) (hr : Rd inE L a l) (hN : l.length ≤ 10000) (hb : ∀ y ∈ l, 0 ≤ y.1 ∧ y.1 ≤ 255) (hG : Tryz.Gk L) :
    Con Tryz.prog 32 [.slice a l.length c] L (Is (.string (bsL (prF l))) L) := by
  refine con_of Tryz.tysOk Tryz.func32 rfl rfl ?_
  conv => whnf
  repeat' ((with_reducible refine Nc.go' (fun _ => ?_)); conv => whnf)
  rename_i b3
  conv => whnf
  refine Lp.by2 Tryz.tysOk [9] (fun (k : Nat) (xs : List UInt8) => [.int .i64 k]) (fun k xs => Tryz.bldH b3 xs :: L) (fun k xs => (k ≤ l.length ∧ xs.length ≤ 40 * k) ∧ xs ++ prF (l.drop k) = prF l) (fun k xs => l.length - k) (0) ([]) (by kernel_rfl) (by (refine FEnt.ent ?_; (repeat (first | exact FEnt.rfl | (apply Tryz.bldShutN))); done)) (⟨⟨by omega, by simp⟩, rfl⟩) ?_
  rintro k xs ⟨⟨g1, g2⟩, g3⟩
  conv => whnf
  repeat (intro _; conv => whnf)
  by_cases hk : k < l.length
  · have hcb := hb _ (getD_mem (d := inE.d) hk)
    have hdr : l.drop k = l.getD k inE.d :: l.drop (k + 1) := by
      rw [List.drop_eq_getElem_cons hk]
      simp [List.getD, hk]
    have hmy := fun L => Tryz.codeMay (l.getD k inE.d).1 (l.getD k inE.d).2.1 (l.getD k inE.d).2.2 L hcb
    have hnm := fun L => Tryz.codeName (l.getD k inE.d).1 L hcb
    have hrg := fun L => Tryz.codeRegister (l.getD k inE.d).1 L
    rw [hdr] at g3
    change xs ++ ((if mayI (l.getD k inE.d).1 (l.getD k inE.d).2.1 (l.getD k inE.d).2.2 then inT (l.getD k inE.d) else []) ++ prF (l.drop (k + 1))) = _ at g3
    clear hb hdr
    by_cases hm : mayI (l.getD k inE.d).1 (l.getD k inE.d).2.1 (l.getD k inE.d).2.2
    · rw [if_pos hm] at g3
      have hmy := fun L => Con.dt hm (hmy L)
      obtain ⟨m1, m2, m3, m4, m5, m6, m7, m8, m9⟩ := hm
      have hix : ∀ L, Tryz.Gk L → Con Tryz.prog 31 [.int .i64 (l.getD k inE.d).2.1] L (Is (.string (decB (l.getD k inE.d).2.1.toNat)) L) := fun L h => by
        have := Tryz.itoa (l.getD k inE.d).2.1 (by omega) L h
        rw [itoa_nat m3] at this
        exact this
      have hin : ∀ L, Tryz.Gk L → Con Tryz.prog 31 [.int .i64 (l.getD k inE.d).2.2] L (Is (.string (decB (l.getD k inE.d).2.2.toNat)) L) := fun L h => by
        have := Tryz.itoa (l.getD k inE.d).2.2 (by omega) L h
        rw [itoa_nat m5] at this
        exact this
      have z1 := name_sz ⟨m1, m2⟩
      have zx : (decB (l.getD k inE.d).2.1.toNat).size ≤ 5 := dec_len 4 _ (by omega)
      have zn : (decB (l.getD k inE.d).2.2.toNat).size ≤ 5 := dec_len 4 _ (by omega)
      have zr : ∀ n : Nat, (regB n).size = (decB n).size + 1 := fun n => by rw [bsL_size, bsL_size, List.length_cons]
      have zx2 := zr (l.getD k inE.d).2.1.toNat
      have zn2 := zr (l.getD k inE.d).2.2.toNat
      have eR : ∀ n : Nat, (⟨#[114]⟩ : ByteArray) ++ decB n = regB n := fun n => str_ext (by rw [append_list]; rfl)
      have eRx := eR (l.getD k inE.d).2.1.toNat
      have eRn := eR (l.getD k inE.d).2.2.toNat
      have zl : (⟨#[10]⟩ : ByteArray).size = 1 := rfl
      have z1r : (⟨#[114]⟩ : ByteArray).size = 1 := rfl
      have eI : inWs (l.getD k inE.d) = [nameF (l.getD k inE.d).1] ++ (if (l.getD k inE.d).1.toNat ≠ 0 ∧ (l.getD k inE.d).1.toNat ≠ 15 ∧ (l.getD k inE.d).1.toNat ≠ 11 then [regB (l.getD k inE.d).2.1.toNat] else []) ++ (if 2 ≤ (l.getD k inE.d).1.toNat ∧ (l.getD k inE.d).1.toNat ≤ 10 then [regB (l.getD k inE.d).2.2.toNat] else if (l.getD k inE.d).1.toNat ≠ 0 ∧ (l.getD k inE.d).1.toNat ≠ 15 then [decB (l.getD k inE.d).2.2.toNat] else []) := rfl
      have hJ : ∀ (w : ByteArray) (r : List ByteArray), inWs (l.getD k inE.d) = w :: r → (joinW (w :: r)).length ≤ 30 → r.length ≤ 2 → ∃ W0 : ByteArray, (∀ a c L, Rd strE L a (w :: r) → (w :: r).length ≤ c → Con Tryz.prog 55 [.slice a (w :: r).length c, .string ⟨#[32]⟩] L (Is (.string W0) L)) ∧ W0.size ≤ 30 ∧ (W0 ++ (⟨#[10]⟩ : ByteArray)).data.toList = inT (l.getD k inE.d) := fun w r h1 h2 h3 => by
        have hjn : Lib.join ((w :: r).map (·.data.toList)) (⟨#[32]⟩ : ByteArray).data.toList = joinW (w :: r) := join_W w r
        refine ⟨bsL (joinW (w :: r)), fun a c L h4 h5 => ?_, by rw [bsL_size]; exact h2, ?_⟩
        · have := Tryz.join a c (w :: r) ⟨#[32]⟩ L h4 (by simp) h5 (by rw [List.length_cons]; omega) (by rw [hjn]; omega)
          rw [hjn] at this
          exact this
        · rw [append_list, bsL_list, ← h1]
          rfl
      have hT : ∀ W0 : ByteArray, W0.size ≤ 30 → (W0 ++ (⟨#[10]⟩ : ByteArray)).data.toList = inT (l.getD k inE.d) → (inT (l.getD k inE.d)).length ≤ 31 ∧ (W0 ++ (⟨#[10]⟩ : ByteArray)).size ≤ 31 := fun W0 h1 h2 => by
        have h3 := app_size W0 ⟨#[10]⟩
        rw [← h2, size_list]
        omega
      clear zr eR
      have hlen : ∀ a b c : ByteArray, a.size + b.size + c.size ≤ 28 → (a.data.toList ++ 32 :: (b.data.toList ++ 32 :: c.data.toList)).length ≤ 30 := fun a b c h => by
        have q1 := size_list a
        have q2 := size_list b
        have q3 := size_list c
        rw [List.length_append, List.length_cons, List.length_append, List.length_cons]
        omega
      generalize inT (l.getD k inE.d) = T at *
      rw [← List.append_assoc] at g3
      by_cases c0 : (l.getD k inE.d).1 = 0 ∨ (l.getD k inE.d).1 = 15
      · have hrg := fun L => Con.df (show ¬ (2 ≤ (l.getD k inE.d).1 ∧ (l.getD k inE.d).1 ≤ 10) by omega) (hrg L)
        rw [if_neg (by omega), if_neg (by omega), if_neg (by omega)] at eI
        obtain ⟨W0, hj, w1, w2⟩ := hJ _ _ eI (by show (nameF (l.getD k inE.d).1).data.toList.length ≤ 30; rw [size_list]; omega) (by simp)
        obtain ⟨t1, t2⟩ := hT W0 w1 w2
        clear hJ hT eI hix hin m6 m7 m8 m9
        rcases c0 with c0 | c0
        · conv => whnf
          repeat' (first
            | (first | ((with_reducible refine Br.ff ?_); conv => whnf) | ((with_reducible refine Br.nt ?_); conv => whnf) | ((with_reducible refine Br.dt ?_ ?_); (focus (first | assumption | omega)); conv => whnf) | ((with_reducible refine Br.ndf ?_ ?_); (focus (first | assumption | omega)); conv => whnf))
            | ((with_reducible refine Ar.i64 ?_ ?_); (focus omega); conv => whnf)
            | ((with_reducible refine Nd.mk ?_ ?_); (focus (first | omega | rfl | assumption | (simp; done))); conv => whnf)
            | ((with_reducible refine Nc.go' (fun _ => ?_)); conv => whnf)
            | ((with_reducible refine Ix.ad ?_ ?_ ?_); (focus (exact Rd.ad (by assumption))); (focus (omega)); conv => whnf)
            | (first | (refine Ld.at 0 rfl rfl ?_; conv => whnf) | (refine Ld.at 1 rfl rfl ?_; conv => whnf))
            | (first | ((with_reducible apply LdN.rdk); (focus ((repeat (first | assumption | apply Rd.cons)); done)); (focus rfl); (focus rfl); (focus (omega)); conv => whnf) | (refine LdN.at 0 rfl (by first | exact Nat.le_of_ble_eq_true rfl | (simp; done)) ?_; conv => whnf))
            | (refine St.at 0 rfl (by first | exact Nat.le_of_ble_eq_true rfl | (simp; done)) rfl ?_; conv => whnf)
            | (first | ((with_reducible refine (?_ : Cl _ 50 _ _ _ _)); (refine Cl.is (hmy _) ?_); conv => whnf) | ((with_reducible refine (?_ : Cl _ 53 _ _ _ _)); (refine Cl.is (hnm _) ?_); conv => whnf) | ((with_reducible refine (?_ : Cl _ 54 _ _ _ _)); (refine Cl.is (hrg _) ?_); conv => whnf) | ((with_reducible refine (?_ : Cl _ 55 _ _ _ _)); (refine Cl.is (hj _ _ _ (Rd.ptc 0 rfl [nameF (l.getD k inE.d).1] rfl) (Nat.le_refl _)) ?_); conv => whnf) | ((refine Cl.isAt 2 rfl (Tryz.bldWrite b3 _ _ _ (by omega)) ?_); conv => whnf)))
          all_goals first | (exfalso; omega) | exact ⟨k + 1, xs ++ (W0 ++ (⟨#[10]⟩ : ByteArray)).data.toList, by kernel_rfl, by (refine FEnt.ent ?_; (repeat (first | exact FEnt.rfl | (refine FEnt.at 2 rfl ?_; (try simp only [List.eraseIdx_cons_zero, List.eraseIdx_cons_succ, List.eraseIdx_zero, List.tail_cons])) | refine FEnt.drop ?_)); done), ⟨⟨by omega, by rw [List.length_append, w2]; omega⟩, by rw [w2]; exact g3⟩, by omega⟩
        · conv => whnf
          repeat' (first
            | (first | ((with_reducible refine Br.tt ?_); conv => whnf) | ((with_reducible refine Br.ff ?_); conv => whnf) | ((with_reducible refine Br.nt ?_); conv => whnf) | ((with_reducible refine Br.dt ?_ ?_); (focus (first | assumption | omega)); conv => whnf) | ((with_reducible refine Br.ndt ?_ ?_); (focus (first | assumption | omega)); conv => whnf) | ((with_reducible refine Br.ndf ?_ ?_); (focus (first | assumption | omega)); conv => whnf))
            | ((with_reducible refine Ar.i64 ?_ ?_); (focus omega); conv => whnf)
            | ((with_reducible refine Nd.mk ?_ ?_); (focus (first | omega | rfl | assumption | (simp; done))); conv => whnf)
            | ((with_reducible refine Nc.go' (fun _ => ?_)); conv => whnf)
            | ((with_reducible refine Ix.ad ?_ ?_ ?_); (focus (exact Rd.ad (by assumption))); (focus (omega)); conv => whnf)
            | (first | (refine Ld.at 0 rfl rfl ?_; conv => whnf) | (refine Ld.at 1 rfl rfl ?_; conv => whnf))
            | (first | ((with_reducible apply LdN.rdk); (focus ((repeat (first | assumption | apply Rd.cons)); done)); (focus rfl); (focus rfl); (focus (omega)); conv => whnf) | (refine LdN.at 0 rfl (by first | exact Nat.le_of_ble_eq_true rfl | (simp; done)) ?_; conv => whnf))
            | (refine St.at 0 rfl (by first | exact Nat.le_of_ble_eq_true rfl | (simp; done)) rfl ?_; conv => whnf)
            | (first | ((with_reducible refine (?_ : Cl _ 50 _ _ _ _)); (refine Cl.is (hmy _) ?_); conv => whnf) | ((with_reducible refine (?_ : Cl _ 53 _ _ _ _)); (refine Cl.is (hnm _) ?_); conv => whnf) | ((with_reducible refine (?_ : Cl _ 54 _ _ _ _)); (refine Cl.is (hrg _) ?_); conv => whnf) | ((with_reducible refine (?_ : Cl _ 55 _ _ _ _)); (refine Cl.is (hj _ _ _ (Rd.ptc 0 rfl [nameF (l.getD k inE.d).1] rfl) (Nat.le_refl _)) ?_); conv => whnf) | ((refine Cl.isAt 2 rfl (Tryz.bldWrite b3 _ _ _ (by omega)) ?_); conv => whnf)))
          all_goals first | (exfalso; omega) | exact ⟨k + 1, xs ++ (W0 ++ (⟨#[10]⟩ : ByteArray)).data.toList, by kernel_rfl, by (refine FEnt.ent ?_; (repeat (first | exact FEnt.rfl | (refine FEnt.at 2 rfl ?_; (try simp only [List.eraseIdx_cons_zero, List.eraseIdx_cons_succ, List.eraseIdx_zero, List.tail_cons])) | refine FEnt.drop ?_)); done), ⟨⟨by omega, by rw [List.length_append, w2]; omega⟩, by rw [w2]; exact g3⟩, by omega⟩
      · by_cases c1 : (l.getD k inE.d).1 = 11
        · have hrg := fun L => Con.df (show ¬ (2 ≤ (l.getD k inE.d).1 ∧ (l.getD k inE.d).1 ≤ 10) by omega) (hrg L)
          rw [if_neg (by omega), if_neg (by omega), if_pos (by omega)] at eI
          obtain ⟨W0, hj, w1, w2⟩ := hJ (nameF (l.getD k inE.d).1) [decB (l.getD k inE.d).2.2.toNat] eI (by show ((nameF (l.getD k inE.d).1).data.toList ++ 32 :: (decB (l.getD k inE.d).2.2.toNat).data.toList).length ≤ 30; rw [List.length_append, List.length_cons, size_list, size_list]; omega) (by simp)
          obtain ⟨t1, t2⟩ := hT W0 w1 w2
          clear hJ hT eI hix m7 m8 m9 c0
          conv => whnf
          repeat' (first
            | (first | ((with_reducible refine Br.tt ?_); conv => whnf) | ((with_reducible refine Br.ff ?_); conv => whnf) | ((with_reducible refine Br.nt ?_); conv => whnf) | ((with_reducible refine Br.dt ?_ ?_); (focus (first | assumption | omega)); conv => whnf) | ((with_reducible refine Br.ndt ?_ ?_); (focus (first | assumption | omega)); conv => whnf) | ((with_reducible refine Br.ndf ?_ ?_); (focus (first | assumption | omega)); conv => whnf))
            | ((with_reducible refine Ar.i64 ?_ ?_); (focus omega); conv => whnf)
            | ((with_reducible refine Nd.mk ?_ ?_); (focus (first | omega | rfl | assumption | (simp; done))); conv => whnf)
            | ((with_reducible refine Nc.go' (fun _ => ?_)); conv => whnf)
            | ((with_reducible refine Ix.ad ?_ ?_ ?_); (focus (exact Rd.ad (by assumption))); (focus (omega)); conv => whnf)
            | (first | (refine Ld.at 0 rfl rfl ?_; conv => whnf) | (refine Ld.at 1 rfl rfl ?_; conv => whnf))
            | (first | ((with_reducible apply LdN.rdk); (focus ((repeat (first | assumption | apply Rd.cons)); done)); (focus rfl); (focus rfl); (focus (omega)); conv => whnf) | (refine LdN.at 0 rfl (by first | exact Nat.le_of_ble_eq_true rfl | (simp; done)) ?_; conv => whnf))
            | (refine St.at 0 rfl (by first | exact Nat.le_of_ble_eq_true rfl | (simp; done)) rfl ?_; conv => whnf)
            | (first | ((with_reducible refine (?_ : Cl _ 50 _ _ _ _)); (refine Cl.is (hmy _) ?_); conv => whnf) | ((with_reducible refine (?_ : Cl _ 53 _ _ _ _)); (refine Cl.is (hnm _) ?_); conv => whnf) | ((with_reducible refine (?_ : Cl _ 54 _ _ _ _)); (refine Cl.is (hrg _) ?_); conv => whnf) | ((with_reducible refine (?_ : Cl _ 31 _ _ _ _)); (refine Cl.is (hin _ (by ((repeat (first | assumption | apply Tryz.gkCons | apply Tryz.gkApp)); done))) ?_); conv => whnf) | ((with_reducible refine (?_ : Cl _ 55 _ _ _ _)); (refine Cl.is (hj _ _ _ (by ((repeat ((refine Rd.own 0 rfl ?_); (assumption))); done)) (by assumption)) ?_); conv => whnf) | ((refine Cl.isAt 3 rfl (Tryz.bldWrite b3 _ _ _ (by omega)) ?_); conv => whnf))
            | ((with_reducible refine (?_ : Sm _ (Builtin.append_ _ _ _) _ _)); ((with_reducible_and_instances apply (Sm.appLit (E := strE) (et := 9) Tryz.tysOk 1 rfl [_] rfl)); (rotate_left; (focus (exact Rd.ptc 0 rfl [_] rfl)); rotate_right; (focus rfl)); (focus rfl); (focus rfl); (focus rfl); (focus rfl); (focus rfl); (focus rfl); (focus rfl); (focus rfl); (focus ((simp only [List.length_append, List.length_cons, List.length_nil]); omega)); (intro _ _ _ _); conv => whnf)))
          all_goals first | (exfalso; omega) | exact ⟨k + 1, xs ++ (W0 ++ (⟨#[10]⟩ : ByteArray)).data.toList, by kernel_rfl, by (refine FEnt.ent ?_; (repeat (first | exact FEnt.rfl | (refine FEnt.at 3 rfl ?_; (try simp only [List.eraseIdx_cons_zero, List.eraseIdx_cons_succ, List.eraseIdx_zero, List.tail_cons])) | refine FEnt.drop ?_)); done), ⟨⟨by omega, by rw [List.length_append, w2]; omega⟩, by rw [w2]; exact g3⟩, by omega⟩
        · by_cases c2 : 2 ≤ (l.getD k inE.d).1 ∧ (l.getD k inE.d).1 ≤ 10
          · have hrg := fun L => Con.dt c2 (hrg L)
            rw [if_pos (by omega), if_pos (by omega)] at eI
            obtain ⟨W0, hj, w1, w2⟩ := hJ (nameF (l.getD k inE.d).1) [regB (l.getD k inE.d).2.1.toNat, regB (l.getD k inE.d).2.2.toNat] eI (by show ((nameF (l.getD k inE.d).1).data.toList ++ 32 :: ((regB (l.getD k inE.d).2.1.toNat).data.toList ++ 32 :: (regB (l.getD k inE.d).2.2.toNat).data.toList)).length ≤ 30; exact hlen _ _ _ (by omega)) (by simp)
            obtain ⟨t1, t2⟩ := hT W0 w1 w2
            clear hJ hT eI m7 m8 m9 c0
            obtain ⟨c2, c3⟩ := c2
            conv => whnf
            repeat' (first
              | (first | ((with_reducible refine Br.tt ?_); conv => whnf) | ((with_reducible refine Br.nt ?_); conv => whnf) | ((with_reducible refine Br.dt ?_ ?_); (focus (first | assumption | omega)); conv => whnf) | ((with_reducible refine Br.ndt ?_ ?_); (focus (first | assumption | omega)); conv => whnf))
              | ((with_reducible refine Ar.i64 ?_ ?_); (focus omega); conv => whnf)
              | ((with_reducible refine Nd.mk ?_ ?_); (focus (first | omega | rfl | assumption | (simp; done))); conv => whnf)
              | ((with_reducible refine Nc.go' (fun _ => ?_)); conv => whnf)
              | ((with_reducible refine Ix.ad ?_ ?_ ?_); (focus (exact Rd.ad (by assumption))); (focus (omega)); conv => whnf)
              | (first | (refine Ld.at 0 rfl rfl ?_; conv => whnf) | (refine Ld.at 1 rfl rfl ?_; conv => whnf) | (refine Ld.at 2 rfl rfl ?_; conv => whnf))
              | (first | ((with_reducible apply LdN.rdk); (focus ((repeat (first | assumption | apply Rd.cons)); done)); (focus rfl); (focus rfl); (focus (omega)); conv => whnf) | (refine LdN.at 0 rfl (by first | exact Nat.le_of_ble_eq_true rfl | (simp; done)) ?_; conv => whnf))
              | (refine St.at 0 rfl (by first | exact Nat.le_of_ble_eq_true rfl | (simp; done)) rfl ?_; conv => whnf)
              | (first | ((with_reducible refine (?_ : Cl _ 50 _ _ _ _)); (refine Cl.is (hmy _) ?_); conv => whnf) | ((with_reducible refine (?_ : Cl _ 53 _ _ _ _)); (refine Cl.is (hnm _) ?_); conv => whnf) | ((with_reducible refine (?_ : Cl _ 54 _ _ _ _)); (refine Cl.is (hrg _) ?_); conv => whnf) | ((with_reducible refine (?_ : Cl _ 31 _ _ _ _)); (first | refine Cl.is (hix _ (by ((repeat (first | assumption | apply Tryz.gkCons | apply Tryz.gkApp)); done))) ?_ | refine Cl.is (hin _ (by ((repeat (first | assumption | apply Tryz.gkCons | apply Tryz.gkApp)); done))) ?_); conv => whnf) | ((with_reducible refine (?_ : Cl _ 55 _ _ _ _)); (refine Cl.is (hj _ _ _ (by ((repeat ((refine Rd.own 0 rfl ?_); (assumption))); done)) (by assumption)) ?_); conv => whnf) | ((refine Cl.isAt 4 rfl (Tryz.bldWrite b3 _ _ _ (by omega)) ?_); conv => whnf))
              | ((with_reducible refine (?_ : Sm _ (Builtin.append_ _ _ _) _ _)); (first | (((with_reducible apply (Sm.appAt (E := strE) (et := 9) Tryz.tysOk 1)); (focus rfl)); (rotate_left; (focus (exact Rd.ptc 0 rfl [_] rfl)); rotate_right; (focus rfl)); (focus rfl); (focus rfl); (focus rfl); (focus rfl); (focus rfl); (focus rfl); (focus ((simp only [List.length_append, List.length_cons, List.length_nil]); omega)); (intro _ _ _ _); conv => whnf) | ((with_reducible_and_instances apply (Sm.appLit (E := strE) (et := 9) Tryz.tysOk 1 rfl [_] rfl)); (rotate_left; (focus (exact Rd.ptc 0 rfl [_] rfl)); rotate_right; (focus rfl)); (focus rfl); (focus rfl); (focus rfl); (focus rfl); (focus rfl); (focus rfl); (focus rfl); (focus rfl); (focus ((simp only [List.length_append, List.length_cons, List.length_nil]); omega)); (intro _ _ _ _); conv => whnf)))
              | ((rw [eRx]); conv => whnf)
              | ((rw [eRn]); conv => whnf))
            all_goals first | (exfalso; omega) | exact ⟨k + 1, xs ++ (W0 ++ (⟨#[10]⟩ : ByteArray)).data.toList, by kernel_rfl, by (refine FEnt.ent ?_; (repeat (first | exact FEnt.rfl | (refine FEnt.at 4 rfl ?_; (try simp only [List.eraseIdx_cons_zero, List.eraseIdx_cons_succ, List.eraseIdx_zero, List.tail_cons])) | refine FEnt.drop ?_)); done), ⟨⟨by omega, by rw [List.length_append, w2]; omega⟩, by rw [w2]; exact g3⟩, by omega⟩
          · have hrg := fun L => Con.df c2 (hrg L)
            rw [if_pos (by omega), if_neg (by omega), if_pos (by omega)] at eI
            obtain ⟨W0, hj, w1, w2⟩ := hJ (nameF (l.getD k inE.d).1) [regB (l.getD k inE.d).2.1.toNat, decB (l.getD k inE.d).2.2.toNat] eI (by show ((nameF (l.getD k inE.d).1).data.toList ++ 32 :: ((regB (l.getD k inE.d).2.1.toNat).data.toList ++ 32 :: (decB (l.getD k inE.d).2.2.toNat).data.toList)).length ≤ 30; exact hlen _ _ _ (by omega)) (by simp)
            obtain ⟨t1, t2⟩ := hT W0 w1 w2
            clear hJ hT eI m7 m8 m9
            have c3 : (l.getD k inE.d).1 = 1 ∨ (12 ≤ (l.getD k inE.d).1 ∧ (l.getD k inE.d).1 ≤ 14) := by omega
            clear c0 c2
            conv => whnf
            repeat' (first
              | (first | ((with_reducible refine Br.tt ?_); conv => whnf) | ((with_reducible refine Br.ff ?_); conv => whnf) | ((with_reducible refine Br.nt ?_); conv => whnf) | ((with_reducible refine Br.dt ?_ ?_); (focus (first | assumption | omega)); conv => whnf) | ((with_reducible refine Br.ndt ?_ ?_); (focus (first | assumption | omega)); conv => whnf))
              | ((with_reducible refine Ar.i64 ?_ ?_); (focus omega); conv => whnf)
              | ((with_reducible refine Nd.mk ?_ ?_); (focus (first | omega | rfl | assumption | (simp; done))); conv => whnf)
              | ((with_reducible refine Nc.go' (fun _ => ?_)); conv => whnf)
              | ((with_reducible refine Ix.ad ?_ ?_ ?_); (focus (exact Rd.ad (by assumption))); (focus (omega)); conv => whnf)
              | (first | (refine Ld.at 0 rfl rfl ?_; conv => whnf) | (refine Ld.at 1 rfl rfl ?_; conv => whnf) | (refine Ld.at 2 rfl rfl ?_; conv => whnf))
              | (first | ((with_reducible apply LdN.rdk); (focus ((repeat (first | assumption | apply Rd.cons)); done)); (focus rfl); (focus rfl); (focus (omega)); conv => whnf) | (refine LdN.at 0 rfl (by first | exact Nat.le_of_ble_eq_true rfl | (simp; done)) ?_; conv => whnf))
              | (refine St.at 0 rfl (by first | exact Nat.le_of_ble_eq_true rfl | (simp; done)) rfl ?_; conv => whnf)
              | (first | ((with_reducible refine (?_ : Cl _ 50 _ _ _ _)); (refine Cl.is (hmy _) ?_); conv => whnf) | ((with_reducible refine (?_ : Cl _ 53 _ _ _ _)); (refine Cl.is (hnm _) ?_); conv => whnf) | ((with_reducible refine (?_ : Cl _ 54 _ _ _ _)); (refine Cl.is (hrg _) ?_); conv => whnf) | ((with_reducible refine (?_ : Cl _ 31 _ _ _ _)); (first | refine Cl.is (hix _ (by ((repeat (first | assumption | apply Tryz.gkCons | apply Tryz.gkApp)); done))) ?_ | refine Cl.is (hin _ (by ((repeat (first | assumption | apply Tryz.gkCons | apply Tryz.gkApp)); done))) ?_); conv => whnf) | ((with_reducible refine (?_ : Cl _ 55 _ _ _ _)); (refine Cl.is (hj _ _ _ (by ((repeat ((refine Rd.own 0 rfl ?_); (assumption))); done)) (by assumption)) ?_); conv => whnf) | ((refine Cl.isAt 4 rfl (Tryz.bldWrite b3 _ _ _ (by omega)) ?_); conv => whnf))
              | ((with_reducible refine (?_ : Sm _ (Builtin.append_ _ _ _) _ _)); (first | (((with_reducible apply (Sm.appAt (E := strE) (et := 9) Tryz.tysOk 1)); (focus rfl)); (rotate_left; (focus (exact Rd.ptc 0 rfl [_] rfl)); rotate_right; (focus rfl)); (focus rfl); (focus rfl); (focus rfl); (focus rfl); (focus rfl); (focus rfl); (focus ((simp only [List.length_append, List.length_cons, List.length_nil]); omega)); (intro _ _ _ _); conv => whnf) | ((with_reducible_and_instances apply (Sm.appLit (E := strE) (et := 9) Tryz.tysOk 1 rfl [_] rfl)); (rotate_left; (focus (exact Rd.ptc 0 rfl [_] rfl)); rotate_right; (focus rfl)); (focus rfl); (focus rfl); (focus rfl); (focus rfl); (focus rfl); (focus rfl); (focus rfl); (focus rfl); (focus ((simp only [List.length_append, List.length_cons, List.length_nil]); omega)); (intro _ _ _ _); conv => whnf)))
              | ((rw [eRx]); conv => whnf))
            all_goals first | (exfalso; omega) | exact ⟨k + 1, xs ++ (W0 ++ (⟨#[10]⟩ : ByteArray)).data.toList, by kernel_rfl, by (refine FEnt.ent ?_; (repeat (first | exact FEnt.rfl | (refine FEnt.at 4 rfl ?_; (try simp only [List.eraseIdx_cons_zero, List.eraseIdx_cons_succ, List.eraseIdx_zero, List.tail_cons])) | refine FEnt.drop ?_)); done), ⟨⟨by omega, by rw [List.length_append, w2]; omega⟩, by rw [w2]; exact g3⟩, by omega⟩
    · rw [if_neg hm, List.nil_append] at g3
      have hmy := fun L => Con.df hm (hmy L)
      clear hm
      conv => whnf
      repeat' (first
        | (first | ((with_reducible refine Br.nf ?_); conv => whnf) | ((with_reducible refine Br.dt ?_ ?_); (focus (first | assumption | omega)); conv => whnf))
        | ((with_reducible refine Ar.i64 ?_ ?_); (focus omega); conv => whnf)
        | ((with_reducible refine Nd.mk ?_ ?_); (focus (first | omega | rfl | assumption | (simp; done))); conv => whnf)
        | ((with_reducible refine Nc.go' (fun _ => ?_)); conv => whnf)
        | ((with_reducible refine Ix.ad ?_ ?_ ?_); (focus (exact Rd.ad (by assumption))); (focus (omega)); conv => whnf)
        | (first | ((with_reducible apply LdN.rdk); (focus ((repeat (first | assumption | apply Rd.cons)); done)); (focus rfl); (focus rfl); (focus (omega)); conv => whnf) | (refine LdN.at 0 rfl (by first | exact Nat.le_of_ble_eq_true rfl | (simp; done)) ?_; conv => whnf))
        | (refine St.at 0 rfl (by first | exact Nat.le_of_ble_eq_true rfl | (simp; done)) rfl ?_; conv => whnf)
        | ((with_reducible refine (?_ : Cl _ 50 _ _ _ _)); (refine Cl.is (hmy _) ?_); conv => whnf))
      all_goals first | (exfalso; omega) | exact ⟨k + 1, xs, by kernel_rfl, by (refine FEnt.ent ?_; (repeat (first | exact FEnt.rfl | (refine FEnt.at 1 rfl ?_; (try simp only [List.eraseIdx_cons_zero, List.eraseIdx_cons_succ, List.eraseIdx_zero, List.tail_cons])) | refine FEnt.drop ?_)); done), ⟨⟨by omega, by omega⟩, g3⟩, by omega⟩
  · have e : k = l.length := by omega
    rw [List.drop_eq_nil_of_le (by omega)] at g3
    change xs ++ [] = _ at g3
    rw [List.append_nil] at g3
    subst g3
    clear hb
    conv => whnf
    repeat' (first
      | ((with_reducible refine Br.df ?_ ?_); (focus (first | assumption | omega)); conv => whnf)
      | ((with_reducible refine Cl.is (Tryz.bldString b3 _ _) ?_); conv => whnf))
    all_goals (refine Is.ent ?_ ?_; (focus (exact Ent.rfl)); (exact Is.rfl))
end Go.Proofs
