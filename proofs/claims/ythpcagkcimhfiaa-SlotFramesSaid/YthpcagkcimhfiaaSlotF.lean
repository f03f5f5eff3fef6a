/- The arbiter of the bus: the statements. -/
import Derived.Test.YthpcagkcimhfiaaSlotE
set_option linter.all false
namespace Go.Proofs
open Go.Eng
set_option linter.unusedVariables false
set_option maxRecDepth 100000
set_option maxHeartbeats 2000000
theorem chk_ex (n : Int) (xs : List Slt) : ∃ e, ChkR n xs e := by
  by_cases hf : okF n
  · have key : ∀ m, m ≤ xs.length → slOk n xs m ∨ ∃ e, ChkR n xs e := by
      intro m
      induction m with
      | zero => intro _; exact .inl (fun i h => by omega)
      | succ m ih =>
        intro hm
        rcases ih (by omega) with h | h
        · by_cases ho : okS n (xs.getD m slE.d)
          · by_cases hj : ∃ j, j < m ∧ meetP (slP (xs.getD j slE.d)) (slP (xs.getD m slE.d))
            · obtain ⟨j, h1, h2⟩ := hj
              exact .inr ⟨11, .meet hf m (by omega) h ho j h1 h2⟩
            · exact .inl (lt_step h ⟨ho, fun j h1 h2 => hj ⟨j, h1, h2⟩⟩)
          · exact .inr ⟨2, .bad hf m (by omega) h ho⟩
        · exact .inr h
    rcases key xs.length (Nat.le_refl _) with h | h
    · exact ⟨0, .ok hf h⟩
    · exact h
  · exact ⟨2, .frame hf⟩
theorem chk_zero {n : Int} {xs : List Slt} (h : ChkR n xs 0) : okF n ∧ slOk n xs xs.length := by
  generalize he : (0 : Int) = e at h
  cases h with
  | ok h g => exact ⟨h, g⟩
  | frame h => omega
  | bad h k hk g b => omega
  | meet h k hk g o j hj m => omega
abbrev sl32 (xs : List Slt) : List Slt := List.take (min (xs.length : Int) 32).toNat xs
theorem sl32_len (xs : List Slt) : (sl32 xs).length ≤ 32 := by unfold sl32; rw [List.length_take]; omega
theorem Try.slMadeNo (n : Int) (a : Option Addr) (c : Nat) (xs : List Slt) (L : List HP) (hn : -9223372036854775808 ≤ n ∧ n ≤ 9223372036854775807) (hx : ∀ x ∈ xs, slB x) (hc : xs.length ≤ c) (hm : c ≤ 9223372036854775807) (hr : Rd slE L a xs) (h : ¬ (n ≤ 200 ∧ ChkR n (sl32 xs) 0)) :
    Con Try.prog 11 [n64 n, .slice a xs.length c] L (Is (.tuple #[.pointer none, .slice a (sl32 xs).length c]) L) := by
  have h32 := sl32_len xs
  have hr2 : Rd slE L a (sl32 xs) := hr.take _
  have hx2 : ∀ x ∈ sl32 xs, slB x := fun x h => hx x (List.mem_of_mem_take h)
  obtain ⟨e, he⟩ := chk_ex n (sl32 xs)
  have hck := Try.refChk n a c (sl32 xs) L hx2 (by omega) hr2
  rw [chkF_eq he] at hck
  have hne : n ≤ 200 → e ≠ 0 := fun h1 h0 => h ⟨h1, h0 ▸ he⟩
  simp only [sl32] at *
  clear he h
  refine con_of Try.tysOk Try.func11 rfl rfl ?_
  by_cases h1 : n ≤ 200
  · have h0 := hne h1
    conv => whnf
    repeat' (first
      | (first | ((with_reducible refine Br.ff ?_); conv => whnf) | ((with_reducible refine Br.df ?_ ?_); (focus (first | assumption | omega)); conv => whnf) | ((with_reducible refine Br.ndt ?_ ?_); (focus (first | assumption | omega)); conv => whnf))
      | ((with_reducible refine Sub.pre ?_ rfl ?_ ?_ ?_); (focus (first | exact Or.inl rfl | exact Or.inr ⟨_, rfl⟩)); (focus (omega)); (focus (omega)); conv => whnf)
      | ((with_reducible refine Cl.is (hck) ?_); conv => whnf))
    all_goals (refine Is.ent ?_ ?_; (focus (exact Ent.rfl)); (exact Is.rfl))
  · conv => whnf
    repeat' (first
      | (first | ((with_reducible refine Br.tt ?_); conv => whnf) | ((with_reducible refine Br.dt ?_ ?_); (focus (first | assumption | omega)); conv => whnf))
      | ((with_reducible refine Sub.pre ?_ rfl ?_ ?_ ?_); (focus (first | exact Or.inl rfl | exact Or.inr ⟨_, rfl⟩)); (focus (omega)); (focus (omega)); conv => whnf))
    all_goals (refine Is.ent ?_ ?_; (focus (exact Ent.rfl)); (exact Is.rfl))
theorem Try.slMadeOk (n : Int) (a : Option Addr) (c : Nat) (xs : List Slt) (L : List HP) (hn : n ≤ 200) (hx : ∀ x ∈ xs, slB x) (hc : xs.length ≤ c) (hm : c ≤ 9223372036854775807) (hr : Rd slE L a xs) (h : ChkR n (sl32 xs) 0) :
    Con Try.prog 11 [n64 n, .slice a xs.length c] L (Exs (fun y : Nat × Option Addr × Nat => .tuple #[.pointer (some ⟨y.1, 0, none⟩), .slice a (sl32 xs).length c]) (fun y => ptc y.1 52 [n64 n, .slice y.2.1 (sl32 xs).length y.2.2] :: own slE 54 y.2.1 y.2.2 (sl32 xs) :: L) (fun y => (sl32 xs).length ≤ y.2.2 ∧ Ad y.2.1 (sl32 xs).length)) := by
  have h32 := sl32_len xs
  have hr2 : Rd slE L a (sl32 xs) := hr.take _
  have hx2 : ∀ x ∈ sl32 xs, slB x := fun x h => hx x (List.mem_of_mem_take h)
  have hck := Try.refChk n a c (sl32 xs) L hx2 (by omega) hr2
  rw [chkF_eq h] at hck
  obtain ⟨hf, hok⟩ := chk_zero h
  have hnw := Try.slNewOk n a c (sl32 xs) L (by omega) hf hok hr2
  simp only [sl32] at *
  clear h
  refine con_of Try.tysOk Try.func11 rfl rfl ?_
  conv => whnf
  repeat' (first
    | (first | ((with_reducible refine Br.ff ?_); conv => whnf) | ((with_reducible refine Br.df ?_ ?_); (focus (first | assumption | omega)); conv => whnf) | ((with_reducible refine Br.ndf ?_ ?_); (focus (first | assumption | omega)); conv => whnf))
    | ((with_reducible refine Nd.mk ?_ ?_); (focus (first | omega | rfl | assumption | (simp; done))); conv => whnf)
    | ((with_reducible refine Sub.pre ?_ rfl ?_ ?_ ?_); (focus (first | exact Or.inl rfl | exact Or.inr ⟨_, rfl⟩)); (focus (omega)); (focus (omega)); conv => whnf)
    | (first | ((with_reducible refine Cl.is (hck) ?_); conv => whnf) | ((with_reducible refine (?_ : Cl _ 8 _ _ _ _)); (refine Cl.exs hnw ?_; rintro ⟨bt, a2, c2⟩ ⟨hc2, had2⟩); conv => whnf)))
  all_goals exact Exs.of ((bt, a2, c2) : Nat × Option Addr × Nat) (by (try dsimp only); (exact Ent.rfl)) ⟨hc2, had2⟩ rfl
theorem Try.slotTablesLaw (n : Int) (a : Option Addr) (c : Nat) (xs : List Slt) (L : List HP) (hn : -9223372036854775808 ≤ n ∧ n ≤ 9223372036854775807) (hx : ∀ x ∈ xs, slB x) (hc : xs.length ≤ c) (hm : c ≤ 9223372036854775807) (hr : Rd slE L a xs) :
    Con Try.prog 3 [n64 n, .slice a xs.length c] L (Is (.bool true) L) := by
  have h32 := sl32_len xs
  have hr2 : Rd slE L a (sl32 xs) := hr.take _
  have hx2 : ∀ x ∈ sl32 xs, slB x := fun x h => hx x (List.mem_of_mem_take h)
  obtain ⟨e, he⟩ := chk_ex n (sl32 xs)
  have hck := fun L => Try.refChk n a c (sl32 xs) L hx2 (by omega)
  rw [chkF_eq he] at hck
  by_cases h0 : e = 0
  · subst h0
    obtain ⟨hf, hok⟩ := chk_zero he
    have hnw := Try.slNewOk n a c (sl32 xs) L (by omega) hf hok hr2
    simp only [sl32] at *
    clear he
    refine con_of Try.tysOk Try.func3 rfl rfl ?_
    conv => whnf
    repeat' (first
      | (first | ((with_reducible refine Br.tt ?_); conv => whnf) | ((with_reducible refine Br.dt ?_ ?_); (focus (first | assumption | omega)); conv => whnf))
      | ((with_reducible refine Nd.mk ?_ ?_); (focus (first | omega | rfl | assumption | (simp; done))); conv => whnf)
      | ((with_reducible refine Sub.pre ?_ rfl ?_ ?_ ?_); (focus (first | exact Or.inl rfl | exact Or.inr ⟨_, rfl⟩)); (focus (omega)); (focus (omega)); conv => whnf)
      | (first | ((with_reducible refine (?_ : Cl _ 8 _ _ _ _)); (refine Cl.exs hnw ?_; rintro ⟨bt, a2, c2⟩ ⟨hc2, had2⟩); conv => whnf) | ((with_reducible refine Cl.is (hck _ (by ((repeat (first | assumption | apply Rd.cons)); done))) ?_); conv => whnf) | ((with_reducible refine Cl.is (Try.slLive _) ?_); conv => whnf)))
    all_goals (refine Is.ent ?_ ?_; (focus (refine FEnt.ent ?_; (repeat (first | exact FEnt.rfl | refine FEnt.drop ?_)); done)); (exact Is.rfl))
  · have hnw := Try.slNewNo n a c (sl32 xs) e L (by omega) he h0 hr2
    simp only [sl32] at *
    clear he
    refine con_of Try.tysOk Try.func3 rfl rfl ?_
    conv => whnf
    repeat' (first
      | (first | ((with_reducible refine Br.tt ?_); conv => whnf) | ((with_reducible refine Br.dt ?_ ?_); (focus (first | assumption | omega)); conv => whnf))
      | ((with_reducible refine Nd.mk ?_ ?_); (focus (first | omega | rfl | assumption | (simp; done))); conv => whnf)
      | ((with_reducible refine Sub.pre ?_ rfl ?_ ?_ ?_); (focus (first | exact Or.inl rfl | exact Or.inr ⟨_, rfl⟩)); (focus (omega)); (focus (omega)); conv => whnf)
      | (first | ((with_reducible refine Cl.is (hnw) ?_); conv => whnf) | ((with_reducible refine Cl.is (hck _ (by ((repeat (assumption)); done))) ?_); conv => whnf) | ((with_reducible refine Cl.is (Try.slLive _) ?_); conv => whnf)))
    all_goals exact Is.ent (by (exact Ent.rfl)) (Is.bool (by simp [h0]))
theorem stF_add {n t : Int} {xs : List Slt} (ht : 0 ≤ t) (hn : 0 < n) : stF n xs (t + n) = stF n xs t := by
  unfold stF
  rw [if_neg (by omega), if_neg (by omega), Int.add_emod_right]
theorem Try.slotStepsLaw (n t : Int) (a : Option Addr) (c : Nat) (xs : List Slt) (L : List HP) (hn : -9223372036854775808 ≤ n ∧ n ≤ 9223372036854775807) (ht : -9223372036854775808 ≤ t ∧ t ≤ 9223372036854775807) (hx : ∀ x ∈ xs, slB x) (hc : xs.length ≤ c) (hm : c ≤ 9223372036854775807) (hr : Rd slE L a xs) :
    Con Try.prog 4 [n64 n, .slice a xs.length c, n64 t] L (Is (.bool true) L) := by
  have h32 := sl32_len xs
  have hr2 : Rd slE L a (sl32 xs) := hr.take _
  have hx2 : ∀ x ∈ sl32 xs, slB x := fun x h => hx x (List.mem_of_mem_take h)
  by_cases hg : n ≤ 200 ∧ ChkR n (sl32 xs) 0
  · have hmd := Try.slMadeOk n a c xs L hg.1 hx hc hm hr hg.2
    obtain ⟨hf, hok⟩ := chk_zero hg.2
    have hat := fun b t a c L (ht : -9223372036854775808 ≤ t ∧ t ≤ 9223372036854775807) (had : Ad a (sl32 xs).length) => Try.slAt b n t a c (sl32 xs) L (by omega) hf hok ht had
    have hrf := fun t L (ht : -9223372036854775808 ≤ t ∧ t ≤ 9223372036854775807) (h : Rd slE L a (sl32 xs)) => Try.refAt n t a c (sl32 xs) L (by omega) hf hok ht h
    have hn2 := hg.1
    have hadd := fun t ht => stF_add (n := n) (t := t) (xs := sl32 xs) ht (by omega)
    clear hg hok hx hx2
    simp only [sl32] at *
    generalize List.take (min (xs.length : Int) 32).toNat xs = ys at *
    generalize stF n ys = F at *
    refine con_of Try.tysOk Try.func4 rfl rfl ?_
    conv => whnf
    repeat' (first
      | ((with_reducible refine Br.sn ?_); conv => whnf)
      | ((with_reducible refine Nd.mk ?_ ?_); (focus (first | omega | rfl | assumption | (simp; done))); conv => whnf)
      | ((with_reducible refine (?_ : Cl _ 11 _ _ _ _)); (refine Cl.exs hmd ?_; rintro ⟨bt, a2, c2⟩ ⟨hc2, had2⟩); conv => whnf))
    dsimp only at hc2 had2
    conv => whnf
    refine Lp.by Try.tysOk [8] (fun (k : Nat) => [.int .i64 k]) (fun k => ptc bt 52 [n64 n, .slice a2 ys.length c2] :: own slE 54 a2 c2 ys :: L) (fun k => (k : Int) ≤ n) (fun k => (n - k).toNat) (0) (by kernel_rfl) (by (exact Ent.rfl)) (by omega) ?_
    rintro k h1
    conv => whnf
    repeat (intro _; conv => whnf)
    by_cases hk : (k : Int) < n
    · have h2 := hadd k (by omega)
      have hat2 := hat bt (k + n) a2 c2
      rw [h2] at hat2
      conv => whnf
      repeat' (first
        | (first | ((with_reducible refine Br.ff ?_); conv => whnf) | ((with_reducible refine Br.dt ?_ ?_); (focus (first | assumption | omega)); conv => whnf) | ((with_reducible refine Br.ndf ?_ ?_); (focus (first | assumption | omega)); conv => whnf))
        | ((with_reducible refine Ar.i64 ?_ ?_); (focus omega); conv => whnf)
        | ((with_reducible refine Nd.mk ?_ ?_); (focus (first | omega | rfl | assumption | (simp; done))); conv => whnf)
        | ((with_reducible refine Nc.go' (fun _ => ?_)); conv => whnf)
        | (first | (refine Ld.at 0 rfl rfl ?_; conv => whnf) | (refine Ld.at 1 rfl rfl ?_; conv => whnf))
        | (refine LdN.at 1 rfl (by first | exact Nat.le_of_ble_eq_true rfl | (simp; done)) ?_; conv => whnf)
        | (first | (refine St.at 0 rfl (by first | exact Nat.le_of_ble_eq_true rfl | (simp; done)) rfl ?_; conv => whnf) | (refine St.at 1 rfl (by first | exact Nat.le_of_ble_eq_true rfl | (simp; done)) rfl ?_; conv => whnf))
        | ((with_reducible refine Dr.by (id := 8) Try.tysOk rfl [(0, 0), (2, 0), (1, 1), (3, 1), (4, 0), (5, 0), (6, 0), (8, 0), (7, 1), (9, 1), (10, 0), (11, 0), (12, 0), (13, 0), (15, 0), (14, 1), (16, 1), (17, 0), (18, 0), (19, 0), (20, 0), (21, 0), (22, 0), (23, 0), (24, 1), (25, 1), (26, 0), (27, 0)] ?_ ?_); (focus kernel_rfl); conv => whnf)
        | ((with_reducible refine CD.isAt2 2 2 rfl rfl (fun M => hat2 _ ⟨by omega, by omega⟩ had2) ?_); conv => whnf)
        | (first | ((refine Cl.isAt2 0 0 rfl rfl (hat bt k a2 c2 _ ⟨by omega, by omega⟩ had2) ?_); conv => whnf) | ((with_reducible refine Cl.is (hrf k _ ⟨by omega, by omega⟩ (by ((repeat (first | assumption | apply Rd.cons)); done))) ?_); conv => whnf)))
      all_goals exact ⟨k + 1, by kernel_rfl, by (refine FEnt.ent ?_; (repeat (first | exact FEnt.rfl | (refine FEnt.at 2 rfl ?_; (try simp only [List.eraseIdx_cons_zero, List.eraseIdx_cons_succ, List.eraseIdx_zero, List.tail_cons])) | refine FEnt.drop ?_)); done), by omega, by omega⟩
    · conv => whnf
      repeat' (first
        | (first | ((with_reducible refine Br.tt ?_); conv => whnf) | ((with_reducible refine Br.dt ?_ ?_); (focus (first | assumption | omega)); conv => whnf) | ((with_reducible refine Br.df ?_ ?_); (focus (first | assumption | omega)); conv => whnf))
        | ((with_reducible refine Nd.mk ?_ ?_); (focus (first | omega | rfl | assumption | (simp; done))); conv => whnf)
        | ((with_reducible refine Nc.go' (fun _ => ?_)); conv => whnf)
        | (first | (refine Ld.at 0 rfl rfl ?_; conv => whnf) | (refine Ld.at 1 rfl rfl ?_; conv => whnf))
        | (first | (refine St.at 0 rfl (by first | exact Nat.le_of_ble_eq_true rfl | (simp; done)) rfl ?_; conv => whnf) | (refine St.at 1 rfl (by first | exact Nat.le_of_ble_eq_true rfl | (simp; done)) rfl ?_; conv => whnf))
        | (first | ((refine Cl.isAt2 0 0 rfl rfl (hat bt t a2 c2 _ ht had2) ?_); conv => whnf) | ((with_reducible refine Cl.is (hrf t _ ht (by ((repeat (first | assumption | apply Rd.cons)); done))) ?_); conv => whnf) | ((with_reducible refine Cl.is (Try.slLive _) ?_); conv => whnf)))
      all_goals (refine Is.ent ?_ ?_; (focus (refine FEnt.ent ?_; (repeat (first | exact FEnt.rfl | refine FEnt.drop ?_)); done)); (exact Is.ttr (by first | assumption | omega)))
  · have hmd := Try.slMadeNo n a c xs L hn hx hc hm hr hg
    obtain ⟨e, he⟩ := chk_ex n (sl32 xs)
    have hck := fun L => Try.refChk n a c (sl32 xs) L hx2 (by omega)
    rw [chkF_eq he] at hck
    have hne : n ≤ 200 → e ≠ 0 := fun h1 h0 => hg ⟨h1, h0 ▸ he⟩
    simp only [sl32] at *
    clear he hg
    generalize List.take (min (xs.length : Int) 32).toNat xs = ys at *
    refine con_of Try.tysOk Try.func4 rfl rfl ?_
    by_cases h1 : n ≤ 200
    · have h0 := hne h1
      conv => whnf
      repeat' (first
        | (first | ((with_reducible refine Br.tt ?_); conv => whnf) | ((with_reducible refine Br.ff ?_); conv => whnf) | ((with_reducible refine Br.nn ?_); conv => whnf) | ((with_reducible refine Br.df ?_ ?_); (focus (first | assumption | omega)); conv => whnf))
        | ((with_reducible refine Nd.mk ?_ ?_); (focus (first | omega | rfl | assumption | (simp; done))); conv => whnf)
        | (first | ((with_reducible refine Cl.is (hmd) ?_); conv => whnf) | ((with_reducible refine Cl.is (hck _ (by ((repeat (assumption)); done))) ?_); conv => whnf) | ((with_reducible refine Cl.is (Try.slLive _) ?_); conv => whnf)))
      all_goals exact Is.ent (by (exact Ent.rfl)) (Is.bool (by simp [h0]))
    · conv => whnf
      repeat' (first
        | (first | ((with_reducible refine Br.tt ?_); conv => whnf) | ((with_reducible refine Br.nn ?_); conv => whnf) | ((with_reducible refine Br.dt ?_ ?_); (focus (first | assumption | omega)); conv => whnf))
        | ((with_reducible refine Nd.mk ?_ ?_); (focus (first | omega | rfl | assumption | (simp; done))); conv => whnf)
        | (first | ((with_reducible refine Cl.is (hmd) ?_); conv => whnf) | ((with_reducible refine Cl.is (Try.slLive _) ?_); conv => whnf)))
      all_goals (refine Is.ent ?_ ?_; (focus (exact Ent.rfl)); (exact Is.rfl))
end Go.Proofs
