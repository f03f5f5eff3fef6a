/- The arbiter of the bus: the statement on rows of ticks. -/
import Derived.Test.YthpcagkcimhfiaaSlotG
set_option linter.all false
namespace Go.Proofs
open Go.Eng
set_option linter.unusedVariables false
set_option maxRecDepth 100000
set_option maxHeartbeats 2000000
theorem Try.slotFramesLaw (n w s1 s2 : Int) (a : Option Addr) (c : Nat) (xs : List Slt) (L : List HP) (hn : -9223372036854775808 ≤ n ∧ n ≤ 9223372036854775807) (hs1 : -9223372036854775808 ≤ s1 ∧ s1 ≤ 9223372036854775807) (hs2 : -9223372036854775808 ≤ s2 ∧ s2 ≤ 9223372036854775807) (hx : ∀ x ∈ xs, slB x) (hc : xs.length ≤ c) (hm : c ≤ 9223372036854775807) (hr : Rd slE L a xs) :
    Con Try.prog 6 [n64 n, .slice a xs.length c, n64 w, spV s1 s2] L (Is (.bool true) L) := by
  have h32 := sl32_len xs
  have hr2 : Rd slE L a (sl32 xs) := hr.take _
  have hx2 : ∀ x ∈ sl32 xs, slB x := fun x h => hx x (List.mem_of_mem_take h)
  by_cases hg : n ≤ 200 ∧ ChkR n (sl32 xs) 0
  · have hmd := fun L h => Try.slMadeOk n a c xs L hg.1 hx hc hm h hg.2
    obtain ⟨hf, hok⟩ := chk_zero hg.2
    have hn2 := hg.1
    have hun := fun b a c L (had : Ad a (sl32 xs).length) => Try.slUnits b n w a c (sl32 xs) L (by omega) hf hok had
    have hrb := fun t L (ht : 0 ≤ t ∧ t ≤ 9223372036854775807) (h : Rd slE L a (sl32 xs)) => Try.refBegins n t w a c (sl32 xs) L (by omega) hf hok ht h
    have hbt := fun b s1 s2 a c L (had : Ad a (sl32 xs).length) (h1 : isS s1 s2) (h2 : s2 ≤ 2147483647) => Try.slBetween b n s1 s2 w a c (sl32 xs) L (by omega) ⟨by omega, by omega⟩ hok had h1 h2
    have hbn := fun b s1 s2 a c L (had : Ad a (sl32 xs).length) (h1 : ¬ (isS s1 s2 ∧ s2 ≤ 2147483647)) => Try.slBetweenNo b n s1 s2 w a c (sl32 xs) L (by omega) ⟨by omega, by omega⟩ hok had h1
    rw [starts_eq hok] at hun
    have hdl := docS_len n.toNat (sl32 xs) w
    have hbd : ∀ o ∈ docS n.toNat (sl32 xs) w, 0 ≤ o ∧ o < n := fun o ho => by
      have := docS_mem.1 ho
      omega
    have hst : ∀ t, 0 ≤ t → betF (docS n.toNat (sl32 xs) w) n (t + 1) = betF (docS n.toNat (sl32 xs) w) n t + if begO (sl32 xs) w (t % n) then 1 else 0 := fun t ht => by
      rw [betF_step (docS_lt _ _ _) hbd ht (by omega)]
      have hq := qr (n := t) (f := n) (by omega)
      by_cases hb : begO (sl32 xs) w (t % n)
      · rw [if_pos hb, if_pos (docS_mem.2 ⟨by omega, by omega, hb⟩)]
      · rw [if_neg hb, if_neg (fun h => hb (docS_mem.1 h).2.2)]
    have hfr : ∀ t, betF (docS n.toNat (sl32 xs) w) n (t + n) = betF (docS n.toNat (sl32 xs) w) n t + (docS n.toNat (sl32 xs) w).length := fun t => betF_frame (by omega)
    have hmo : ∀ s t, 0 ≤ s → s ≤ t → betF (docS n.toNat (sl32 xs) w) n s ≤ betF (docS n.toNat (sl32 xs) w) n t := fun s t h1 h2 => (betF_bd hbd h1 h2 (by omega)).1
    clear hg hok hx hx2 hbd
    generalize sl32 xs = ys at *
    generalize docS n.toNat ys w = ds at *
    generalize betF ds n = F at *
    by_cases his : isS s1 s2
    · by_cases hmx : s2 ≤ 2147483647
      · have h0 := hmo s1 s2 (by unfold isS at his; omega) (by unfold isS at his; omega)
        by_cases h6 : s2 - s1 ≤ 600
        · have hf2 := hfr s1
          refine con_of Try.tysOk Try.func6 rfl rfl ?_
          conv => whnf
          repeat' (first
            | (first | ((with_reducible refine Br.ff ?_); conv => whnf) | ((with_reducible refine Br.nt ?_); conv => whnf) | ((with_reducible refine Br.sn ?_); conv => whnf) | ((with_reducible refine Br.df ?_ ?_); (focus (first | assumption | omega)); conv => whnf))
            | ((with_reducible refine Ar.i64 ?_ ?_); (focus omega); conv => whnf)
            | ((with_reducible refine Nd.mk ?_ ?_); (focus (first | omega | rfl | assumption | (simp; done))); conv => whnf)
            | ((with_reducible refine Nc.go' (fun _ => ?_)); conv => whnf)
            | (refine Ld.at 2 rfl rfl ?_; conv => whnf)
            | (refine LdN.at 2 rfl (by first | exact Nat.le_of_ble_eq_true rfl | (simp; done)) ?_; conv => whnf)
            | (first | ((with_reducible refine (?_ : Cl _ 11 _ _ _ _)); (refine Cl.exs (hmd _ (by ((repeat (first | assumption | apply Rd.cons)); done))) ?_; rintro ⟨bt, a2, c2⟩ ⟨hc2, had2⟩); conv => whnf) | ((refine Cl.isAt2 0 0 rfl rfl (hbt bt s1 s2 a2 c2 _ had2 his hmx) ?_); conv => whnf) | ((with_reducible refine Cl.is (Con.dt his (Try.refIs _ _ _)) ?_); conv => whnf)))
          rename_i b7
          dsimp only at hc2 had2
          conv => whnf
          refine Lp.by2 Try.tysOk [11, 12] (fun (u x : Int) => [n64 x, n64 u]) (fun u x => ptc bt 52 [n64 n, .slice a2 ys.length c2] :: own slE 54 a2 c2 ys :: ptc b7 45 [n64 s1, n64 s2] :: L) (fun u x => s1 ≤ u ∧ u ≤ s2 ∧ 0 ≤ x ∧ x ≤ u - s1 ∧ x = F u - F s1) (fun u x => (s2 - u).toNat) (s1) (0) (by kernel_rfl) (by (exact Ent.rfl)) (⟨by omega, by unfold isS at his; omega, by omega, by omega, by omega⟩) ?_
          rintro u x ⟨g1, g2, g3, g4, g5⟩
          conv => whnf
          repeat (intro _; conv => whnf)
          by_cases hu : u < s2
          · have h3 := hst u (by unfold isS at his; omega)
            by_cases hb : begO ys w (u % n)
            · rw [if_pos hb] at h3
              conv => whnf
              repeat' (first
                | (first | ((with_reducible refine Br.tt ?_); conv => whnf) | ((with_reducible refine Br.dt ?_ ?_); (focus (first | assumption | omega)); conv => whnf))
                | ((with_reducible refine Ar.i64 ?_ ?_); (focus omega); conv => whnf)
                | (refine Ld.at 2 rfl rfl ?_; conv => whnf)
                | ((with_reducible refine Cl.is (Con.dt hb (hrb u _ ⟨by unfold isS at his; omega, by omega⟩ (by ((repeat (first | assumption | apply Rd.cons)); done)))) ?_); conv => whnf))
              all_goals exact ⟨u + 1, x + 1, by kernel_rfl, by (exact Ent.rfl), ⟨by omega, by omega, by omega, by omega, by omega⟩, by omega⟩
            · rw [if_neg hb, Int.add_zero] at h3
              conv => whnf
              repeat' (first
                | (first | ((with_reducible refine Br.ff ?_); conv => whnf) | ((with_reducible refine Br.dt ?_ ?_); (focus (first | assumption | omega)); conv => whnf))
                | ((with_reducible refine Ar.i64 ?_ ?_); (focus omega); conv => whnf)
                | (refine Ld.at 2 rfl rfl ?_; conv => whnf)
                | ((with_reducible refine Cl.is (Con.df hb (hrb u _ ⟨by unfold isS at his; omega, by omega⟩ (by ((repeat (first | assumption | apply Rd.cons)); done)))) ?_); conv => whnf))
              all_goals exact ⟨u + 1, x, by kernel_rfl, by (exact Ent.rfl), ⟨by omega, by omega, by omega, by omega, by omega⟩, by omega⟩
          · have e : u = s2 := by omega
            subst e
            by_cases h9 : s1 + n ≤ 2147483647
            · have his2 : isS s1 (s1 + n) := by unfold isS at *; omega
              conv => whnf
              repeat' (first
                | (first | ((with_reducible refine Br.tt ?_); conv => whnf) | ((with_reducible refine Br.ff ?_); conv => whnf) | ((with_reducible refine Br.dt ?_ ?_); (focus (first | assumption | omega)); conv => whnf) | ((with_reducible refine Br.df ?_ ?_); (focus (first | assumption | omega)); conv => whnf))
                | ((with_reducible refine Ar.i64 ?_ ?_); (focus omega); conv => whnf)
                | (refine Ld.at 2 rfl rfl ?_; conv => whnf)
                | (first | ((refine Cl.isAt2 0 0 rfl rfl (hbt bt s1 (s1 + n) a2 c2 _ had2 his2 h9) ?_); conv => whnf) | ((with_reducible refine Cl.is (Try.slLive _) ?_); conv => whnf) | ((refine Cl.isAt2 0 0 rfl rfl (hun bt a2 c2 _ had2) ?_); conv => whnf)))
              all_goals (refine Is.ent ?_ ?_; (focus (refine FEnt.ent ?_; (repeat (first | exact FEnt.rfl | refine FEnt.drop ?_)); done)); (exact Is.ttr (by first | assumption | omega)))
            · have hno : ¬ (isS s1 (s1 + n) ∧ s1 + n ≤ 2147483647) := fun h => h9 h.2
              conv => whnf
              repeat' (first
                | (first | ((with_reducible refine Br.tt ?_); conv => whnf) | ((with_reducible refine Br.dt ?_ ?_); (focus (first | assumption | omega)); conv => whnf) | ((with_reducible refine Br.df ?_ ?_); (focus (first | assumption | omega)); conv => whnf))
                | ((with_reducible refine Ar.i64 ?_ ?_); (focus omega); conv => whnf)
                | (refine Ld.at 2 rfl rfl ?_; conv => whnf)
                | (first | ((refine Cl.isAt2 0 0 rfl rfl (hbn bt s1 (s1 + n) a2 c2 _ had2 hno) ?_); conv => whnf) | ((with_reducible refine Cl.is (Try.slLive _) ?_); conv => whnf)))
              all_goals (refine Is.ent ?_ ?_; (focus (refine FEnt.ent ?_; (repeat (first | exact FEnt.rfl | refine FEnt.drop ?_)); done)); (exact Is.rfl))
        · refine con_of Try.tysOk Try.func6 rfl rfl ?_
          conv => whnf
          repeat' (first
            | (first | ((with_reducible refine Br.tt ?_); conv => whnf) | ((with_reducible refine Br.ff ?_); conv => whnf) | ((with_reducible refine Br.nt ?_); conv => whnf) | ((with_reducible refine Br.sn ?_); conv => whnf) | ((with_reducible refine Br.dt ?_ ?_); (focus (first | assumption | omega)); conv => whnf) | ((with_reducible refine Br.df ?_ ?_); (focus (first | assumption | omega)); conv => whnf))
            | ((with_reducible refine Ar.i64 ?_ ?_); (focus omega); conv => whnf)
            | ((with_reducible refine Nd.mk ?_ ?_); (focus (first | omega | rfl | assumption | (simp; done))); conv => whnf)
            | ((with_reducible refine Nc.go' (fun _ => ?_)); conv => whnf)
            | (refine Ld.at 2 rfl rfl ?_; conv => whnf)
            | (refine LdN.at 2 rfl (by first | exact Nat.le_of_ble_eq_true rfl | (simp; done)) ?_; conv => whnf)
            | (first | ((with_reducible refine (?_ : Cl _ 11 _ _ _ _)); (refine Cl.exs (hmd _ (by ((repeat (first | assumption | apply Rd.cons)); done))) ?_; rintro ⟨bt, a2, c2⟩ ⟨hc2, had2⟩); conv => whnf) | ((refine Cl.isAt2 0 0 rfl rfl (hbt bt s1 s2 a2 c2 _ had2 his hmx) ?_); conv => whnf) | ((with_reducible refine Cl.is (Con.dt his (Try.refIs _ _ _)) ?_); conv => whnf) | ((with_reducible refine Cl.is (Try.slLive _) ?_); conv => whnf)))
          all_goals (refine Is.ent ?_ ?_; (focus (refine FEnt.ent ?_; (repeat (first | exact FEnt.rfl | refine FEnt.drop ?_)); done)); (exact Is.ttr (by first | assumption | omega)))
      · have hno : ¬ (isS s1 s2 ∧ s2 ≤ 2147483647) := fun h => hmx h.2
        refine con_of Try.tysOk Try.func6 rfl rfl ?_
        conv => whnf
        repeat' (first
          | (first | ((with_reducible refine Br.tt ?_); conv => whnf) | ((with_reducible refine Br.ff ?_); conv => whnf) | ((with_reducible refine Br.nt ?_); conv => whnf) | ((with_reducible refine Br.sn ?_); conv => whnf) | ((with_reducible refine Br.dt ?_ ?_); (focus (first | assumption | omega)); conv => whnf))
          | ((with_reducible refine Nd.mk ?_ ?_); (focus (first | omega | rfl | assumption | (simp; done))); conv => whnf)
          | ((with_reducible refine Nc.go' (fun _ => ?_)); conv => whnf)
          | (refine Ld.at 2 rfl rfl ?_; conv => whnf)
          | (refine LdN.at 2 rfl (by first | exact Nat.le_of_ble_eq_true rfl | (simp; done)) ?_; conv => whnf)
          | (first | ((with_reducible refine (?_ : Cl _ 11 _ _ _ _)); (refine Cl.exs (hmd _ (by ((repeat (first | assumption | apply Rd.cons)); done))) ?_; rintro ⟨bt, a2, c2⟩ ⟨hc2, had2⟩); conv => whnf) | ((refine Cl.isAt2 0 0 rfl rfl (hbn bt s1 s2 a2 c2 _ had2 hno) ?_); conv => whnf) | ((with_reducible refine Cl.is (Con.dt his (Try.refIs _ _ _)) ?_); conv => whnf) | ((with_reducible refine Cl.is (Try.slLive _) ?_); conv => whnf)))
        all_goals (refine Is.ent ?_ ?_; (focus (refine FEnt.ent ?_; (repeat (first | exact FEnt.rfl | refine FEnt.drop ?_)); done)); (exact Is.rfl))
    · have hno : ¬ (isS s1 s2 ∧ s2 ≤ 2147483647) := fun h => his h.1
      refine con_of Try.tysOk Try.func6 rfl rfl ?_
      conv => whnf
      repeat' (first
        | (first | ((with_reducible refine Br.tt ?_); conv => whnf) | ((with_reducible refine Br.nf ?_); conv => whnf) | ((with_reducible refine Br.sn ?_); conv => whnf))
        | ((with_reducible refine Nd.mk ?_ ?_); (focus (first | omega | rfl | assumption | (simp; done))); conv => whnf)
        | ((with_reducible refine Nc.go' (fun _ => ?_)); conv => whnf)
        | (refine LdN.at 2 rfl (by first | exact Nat.le_of_ble_eq_true rfl | (simp; done)) ?_; conv => whnf)
        | (first | ((with_reducible refine (?_ : Cl _ 11 _ _ _ _)); (refine Cl.exs (hmd _ (by ((repeat (first | assumption | apply Rd.cons)); done))) ?_; rintro ⟨bt, a2, c2⟩ ⟨hc2, had2⟩); conv => whnf) | ((refine Cl.isAt2 0 0 rfl rfl (hbn bt s1 s2 a2 c2 _ had2 hno) ?_); conv => whnf) | ((with_reducible refine Cl.is (Con.df his (Try.refIs _ _ _)) ?_); conv => whnf) | ((with_reducible refine Cl.is (Try.slLive _) ?_); conv => whnf)))
      all_goals (refine Is.ent ?_ ?_; (focus (refine FEnt.ent ?_; (repeat (first | exact FEnt.rfl | refine FEnt.drop ?_)); done)); (exact Is.rfl))
  · have hmd := fun L h => Try.slMadeNo n a c xs L hn hx hc hm h hg
    generalize sl32 xs = ys at *
    refine con_of Try.tysOk Try.func6 rfl rfl ?_
    conv => whnf
    repeat' (first
      | ((with_reducible refine Br.nn ?_); conv => whnf)
      | ((with_reducible refine Nd.mk ?_ ?_); (focus (first | omega | rfl | assumption | (simp; done))); conv => whnf)
      | ((with_reducible refine Nc.go' (fun _ => ?_)); conv => whnf)
      | (first | ((with_reducible refine Cl.is (hmd _ (by ((repeat (first | assumption | apply Rd.cons)); done))) ?_); conv => whnf) | ((with_reducible refine Cl.is (Try.slLive _) ?_); conv => whnf)))
    all_goals (refine Is.ent ?_ ?_; (focus (refine FEnt.ent ?_; (repeat (first | exact FEnt.rfl | refine FEnt.drop ?_)); done)); (exact Is.rfl))
end Go.Proofs
