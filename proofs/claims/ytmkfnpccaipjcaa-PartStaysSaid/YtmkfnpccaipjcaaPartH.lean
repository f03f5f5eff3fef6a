/- The partition's laws: what stays. -/
import Derived.Test.YtmkfnpccaipjcaaPartG
import Derived.Test.YtmkfnpccaipjcaaMemDiff
import Derived.Test.YtmkfnpccaipjcaaEngMore
set_option linter.all false
namespace Go.Proofs
open Go.Eng
set_option linter.unusedVariables false
set_option maxRecDepth 100000
set_option maxHeartbeats 2000000
/-- a row, parted -/
theorem three_parts {X : List UInt8} {B N : Nat} (h : B + N ≤ X.length) : ∃ pre V post, X = pre ++ V ++ post ∧ pre.length = B ∧ V.length = N ∧ post.length = X.length - B - N :=
  ⟨X.take B, (X.drop B).take N, (X.drop B).drop N, by rw [List.append_assoc, List.take_append_drop, List.take_append_drop], by rw [List.length_take]; omega, by rw [List.length_take, List.length_drop]; omega, by rw [List.length_drop, List.length_drop]⟩
/-- zeros in the midst -/
theorem lay_mid {pre V post ys : List UInt8} (h : ys.length = V.length) : lay (pre ++ V ++ post) pre.length ys = pre ++ ys ++ post := by
  have := mid_lay (pre := pre) (V := V) (post := post) (ys := ys) (k := 0) (by omega)
  rw [Nat.add_zero, lay_all h] at this
  exact this
theorem Try.putMid (b : Nat) (pre V post : List UInt8) (at_ : Int) (ys : List UInt8) (L : List HP) (hl : (pre ++ V ++ post).length ≤ 16384) (ha : at_ = pre.length) (h : ys.length = V.length) :
    Con Try.prog 23 [pV b, i64V at_, .string ⟨ys.toArray⟩] (Try.memH b (pre ++ V ++ post) :: L) (Is (i64V 0) (Try.memH b (pre ++ ys ++ post) :: L)) := by
  have hlen : (pre ++ V ++ post).length = pre.length + V.length + post.length := by simp only [List.length_append]
  have e : (⟨ys.toArray⟩ : ByteArray).data.toList = ys := rfl
  have hs : (⟨ys.toArray⟩ : ByteArray).size = ys.length := by rw [← size_list, e]
  have := Try.memPut b (pre ++ V ++ post) pre.length at_ ⟨ys.toArray⟩ L (by omega) ha (by omega)
  rw [e, lay_mid h] at this
  exact this
theorem Try.partStaysLaw (s : ByteArray) (size : Int) (u : ByteArray) (a0 : Option Addr) (c0 : Nat) (ds : List PDeed) (L : List HP) (hz : I64 size) (hu : u.size ≤ 9223372036854775807) (hd : ∀ d ∈ ds, fctI d.2) (hc0 : ds.length ≤ c0) (hm0 : c0 ≤ 9223372036854775807) (hr0 : Rd pdE L a0 ds) :
    Con Try.prog 6 [.string s, i64W size, .string u, .slice a0 ds.length c0] L (Is (.bool true) L) := by
  by_cases hg : s.size ≤ size ∧ size ≤ 300 ∧ u.size ≤ 300
  · obtain ⟨N, rfl⟩ := Int.eq_ofNat_of_zero_le (a := size) (by omega)
    have hzl : (zeros (min (max (1000 : Int) 0) 16384).toNat).length = 1000 := by rw [List.length_replicate]; rfl
    have hnw := fun L => Try.memNew 1000 L ⟨by omega, by omega⟩
    generalize zeros (min (max (1000 : Int) 0) 16384).toNat = X0 at *
    refine con_of Try.tysOk Try.func6 rfl rfl ?_
    conv => whnf
    repeat' (first
      | (first | ((with_reducible refine Br.ff ?_); conv => whnf) | ((with_reducible refine Br.df ?_ ?_); (focus (first | assumption | omega)); conv => whnf))
      | ((with_reducible refine (?_ : Cl _ 12 _ _ _ _)); (refine Cl.exs (hnw _) (fun bm _ => ?_)); conv => whnf))
    conv => whnf
    refine Lp.cut2 Try.tysOk 0 [10] (fun (at_ : Nat) (X : List UInt8) => [.int .i64 at_]) (fun at_ X => Try.memH bm X :: L) (fun at_ X => at_ ≤ 1000 ∧ X.length = 1000) (fun at_ X => X.length = 1000) (fun at_ X => 1000 - at_) (0) (X0) (by kernel_rfl) (by (exact Ent.rfl)) (⟨by omega, hzl⟩) ?_ ?_
    · rintro at_ X ⟨g1, g2⟩
      conv => whnf
      repeat (intro _; conv => whnf)
      by_cases hk : 0 < u.size ∧ at_ + u.size ≤ 1000
      · have hul := size_list u
        have hpl := lay_len (xs := X) (ys := u.data.toList) (l := at_) (by omega)
        have hpt := fun L => Try.memPut bm X at_ at_ u L (by omega) rfl (by omega)
        generalize lay X at_ u.data.toList = X2 at *
        have eat : (at_ : Int) + (u.size : Int) = ((at_ + u.size : Nat) : Int) := by omega
        conv => whnf
        repeat' (first
          | (first | ((with_reducible refine Br.tt ?_); conv => whnf) | ((with_reducible refine Br.dt ?_ ?_); (focus (first | assumption | omega)); conv => whnf))
          | ((with_reducible refine Ar.i64 ?_ ?_); (focus omega); conv => whnf)
          | ((refine Cl.isAt 0 rfl (hpt _) ?_); conv => whnf)
          | ((rw [eat]); conv => whnf))
        all_goals exact ⟨at_ + u.size, X2, by kernel_rfl, by (exact Ent.rfl), ⟨by omega, by omega⟩, by omega⟩
      · conv => whnf
        repeat' (first
          | (first | ((with_reducible refine Br.tt ?_); conv => whnf) | ((with_reducible refine Br.ff ?_); conv => whnf) | ((with_reducible refine Br.df ?_ ?_); (focus (first | assumption | omega)); conv => whnf))
          | ((with_reducible refine Ar.i64 ?_ ?_); (focus omega); conv => whnf)
          | ((with_reducible refine Br.ds (fun _ => ?_) (fun _ => ?_) ) <;> (conv => whnf)))
        all_goals exact ⟨at_, X, by kernel_rfl, by (exact Ent.rfl), g2⟩
    · rintro at_ X g2
      conv => whnf
      repeat (intro _; conv => whnf)
      obtain ⟨pre, W, post, rfl, hpl, hWl, hql⟩ := three_parts (X := X) (B := 500) (N := N) (by omega)
      have hrep : List.replicate (Int.toNat (N : Int)) u8E.d = zeros N := rfl
      have hzN : (zeros N).length = N := List.length_replicate
      have hput := fun L => Try.putMid bm pre W post 500 (zeros N) L (by omega) (by omega) (by omega)
      have hlz := seg_len2 hpl hzN hql
      have hVl := lay0_len (N := N) (s := s) (by omega)
      obtain ⟨pre2, hpre2, hpl2⟩ := zeros_ex 0
      obtain ⟨post2, hpost2, hql2⟩ := zeros_ex (300 - N)
      have hnw2 := fun L => Try.memNewP 300 0 N (300 - N) L (by omega) (by omega)
      rw [hpre2, hpost2] at hnw2
      have hpn := fun L => Try.parNew bm pre (zeros N) post 500 N 1 s L (by omega) (by omega) (by omega) ⟨by omega, by omega⟩ (by omega)
      have hlz2 := seg_len2 hpl2 hzN hql2
      have hpn2 := fun b L => Try.parNew b pre2 (zeros N) post2 0 N 2 s L (by omega) (by omega) (by omega) ⟨by omega, by omega⟩ (by omega)
      have hx0 := seg_len2 hpl hVl hql
      have hfk := fun L => Try.memFork bm (pre ++ lay (zeros N) 0 s.data.toList ++ post) L (by omega)
      clear hpre2 hpost2
      generalize lay (zeros N) 0 s.data.toList = V0 at *
      generalize zeros N = Z at *
      conv => whnf
      repeat' (first
        | (first | ((with_reducible refine Br.ff ?_); conv => whnf) | ((with_reducible refine Br.ndf ?_ ?_); (focus (first | assumption | omega)); conv => whnf))
        | ((with_reducible refine Nd.mk ?_ ?_); (focus (first | omega | rfl | assumption | (simp; done))); conv => whnf)
        | ((with_reducible apply (Mk.own u8E)); (focus rfl); (focus (omega)); (focus rfl); (intro _); conv => whnf)
        | (first | ((refine Cl.isAt 1 rfl (hput _) ?_); conv => whnf) | ((refine Cl.exsAt2 1 rfl (fun M => hpn M) ?_); (conv => whnf); rintro bp -; conv => whnf) | ((with_reducible refine (?_ : Cl _ 12 _ _ _ _)); (refine Cl.exs (hnw2 _) (fun bm2 _ => ?_)); conv => whnf) | ((refine Cl.exsAt2 0 rfl (fun M => hpn2 _ M) ?_); (conv => whnf); rintro bq -; conv => whnf) | ((refine Cl.exsAt2 3 rfl (fun M => hfk M) ?_); (conv => whnf); rintro bf -; conv => whnf))
        | ((with_reducible refine (?_ : Sm _ (convert _ _ _) _ _)); ((apply (Sm.b2s Try.tysOk)); ((focus rfl); (focus ((repeat ((refine Rd.own 0 rfl ?_); (exact fun _ => rfl))); done))); (focus rfl); (focus rfl); (focus rfl); (focus rfl); (focus rfl); (focus rfl); conv => whnf))
        | ((rw [hrep]); conv => whnf))
      conv => whnf
      refine Lp.cut2 Try.tysOk 2 [16] (fun (k : Nat) (q : Mch) => [.int .i64 k]) (fun k q => Try.memH bf (pre ++ V0 ++ post) :: ptc bp 79 (parC bm 500 N 1 q) :: Try.memH bm (pre ++ q.V ++ post) :: ptc bq 79 (parC bm2 0 N 2 q) :: Try.memH bm2 (pre2 ++ q.V ++ post2) :: L) (fun k q => k ≤ ds.length ∧ Mok q ∧ q.V.length = N) (fun k q => q.V.length = N) (fun k q => 60 - k) (0) ((⟨V0, 0, fun _ => 0, 0⟩ : Mch)) (by kernel_rfl) (by (refine FEnt.ent ?_; (repeat (first | exact FEnt.rfl | (refine FEnt.at 0 rfl ?_; (try simp only [List.eraseIdx_cons_zero, List.eraseIdx_cons_succ, List.eraseIdx_zero, List.tail_cons])) | (refine FEnt.at 3 rfl ?_; (try simp only [List.eraseIdx_cons_zero, List.eraseIdx_cons_succ, List.eraseIdx_zero, List.tail_cons])) | refine FEnt.drop ?_)); done)) (⟨by omega, m0_ok (by omega), hVl⟩) ?_ ?_
      · rintro k q ⟨h1, hq, h3⟩
        conv => whnf
        repeat (intro _; conv => whnf)
        have hx := seg_len2 hpl h3 hql
        have hx2 := seg_len2 hpl2 h3 hql2
        by_cases hk : k < ds.length ∧ k < 60
        · have hdk := hd _ (getD_mem (d := pdE.d) hk.1)
          by_cases ho : (ds.getD k pdE.d).1 = true
          · have hp1 := fun L => Try.parOpen bp bm pre post 500 N 1 (ds.getD k pdE.d).2.1 (ds.getD k pdE.d).2.2.2.2.2 q L (by omega) (by omega) (by omega)
            have hp2 := fun L => Try.parOpen bq bm2 pre2 post2 0 N 2 (ds.getD k pdE.d).2.1 (ds.getD k pdE.d).2.2.2.2.2 q L (by omega) (by omega) (by omega)
            have hln := opnL_len q (ds.getD k pdE.d).2.1 (ds.getD k pdE.d).2.2.2.2.2
            have hsm := fun a1 a2 c1 c2 L h1 h2 => Try.refSameM a1 a2 c1 c2 (opnL q (ds.getD k pdE.d).2.1 (ds.getD k pdE.d).2.2.2.2.2) L (by omega) h1 h2
            generalize opnL q (ds.getD k pdE.d).2.1 (ds.getD k pdE.d).2.2.2.2.2 = l at *
            conv => whnf
            repeat' (first
              | (first | ((with_reducible refine Br.tt ?_); conv => whnf) | ((with_reducible refine Br.ff ?_); conv => whnf) | ((with_reducible refine Br.nt ?_); conv => whnf) | ((with_reducible refine Br.dt ?_ ?_); (focus (first | assumption | omega)); conv => whnf) | ((with_reducible refine Br.nef ?_ ?_); (focus (first | rfl | assumption)); conv => whnf) | ((with_reducible refine Br.yes ?_ ?_); (focus assumption); conv => whnf))
              | ((with_reducible refine Ar.i64 ?_ ?_); (focus omega); conv => whnf)
              | ((with_reducible refine Ix.ad ?_ ?_ ?_); (focus (exact Rd.ad (by assumption))); (focus (omega)); conv => whnf)
              | ((with_reducible refine Fk.mk ?_ ?_) <;> (conv => whnf))
              | (with_reducible exact True.intro)
              | (refine Eqs.is rfl (by kernel_rfl) ?_; conv => whnf)
              | (first | ((first | (with_reducible apply Ld.rdk) | (with_reducible apply Ld.rdk0)); (focus ((repeat (first | assumption | apply Rd.cons)); done)); (focus rfl); (focus (omega)); (focus rfl); conv => whnf) | ((with_reducible apply Ld.rdk2); (focus ((repeat (first | assumption | apply Rd.cons)); done)); (focus rfl); (focus (omega)); (focus rfl); conv => whnf))
              | ((with_reducible refine Dr.tree (id := 20) Try.tysOk rfl (.one 0 0 (.one 1 0 (.one 2 0 (.one 3 0 (.one 4 0 (.one 5 0 (.one 7 0 (.one 8 0 (.one 9 0 (.one 10 0 (.one 11 0 (.one 14 0 (.one 15 0 (.one 16 0 (.one 17 0 (.one 18 0 (.one 19 0 (.one 21 0 (.one 22 0 (.one 23 0 (.one 24 0 (.one 25 0 (.one 6 1 (.one 12 1 (.fork 13 3 (.one 20 1 (.one 26 1 (.one 27 3 (.one 28 0 (.one 29 0 .nil))))) (.fork 20 1 (.fork 13 3 (.one 26 1 (.one 27 3 (.one 28 0 (.one 29 0 .nil)))) (.fork 26 1 (.one 13 3 (.one 27 3 (.one 28 0 (.one 29 0 .nil)))) .nil)) (.fork 26 1 (.fork 13 3 (.one 20 1 (.one 27 3 (.one 28 0 (.one 29 0 .nil)))) (.fork 20 1 (.one 13 3 (.one 27 3 (.one 28 0 (.one 29 0 .nil)))) .nil)) .nil))))))))))))))))))))))))))) ?_ _ ?_ (fun _ _ h => h)); (focus kernel_rfl); conv => whnf)
              | (first | (apply (Cl.pre [ptc bp _ _, Try.memH bm _]); (focus (repeat (first | exact FEnt.rfl | (refine FEnt.at 1 rfl ?_; (try simp only [List.eraseIdx_cons_zero, List.eraseIdx_cons_succ, List.eraseIdx_zero, List.tail_cons])) | (refine FEnt.at 4 rfl ?_; (try simp only [List.eraseIdx_cons_zero, List.eraseIdx_cons_succ, List.eraseIdx_zero, List.tail_cons])))); done); refine Cl.new (hp1 _) (fun _ _ _ _ => ?_); conv => whnf) | (apply (Cl.pre [ptc bq _ _, Try.memH bm2 _]); (focus (repeat (first | exact FEnt.rfl | (refine FEnt.at 1 rfl ?_; (try simp only [List.eraseIdx_cons_zero, List.eraseIdx_cons_succ, List.eraseIdx_zero, List.tail_cons])) | (refine FEnt.at 4 rfl ?_; (try simp only [List.eraseIdx_cons_zero, List.eraseIdx_cons_succ, List.eraseIdx_zero, List.tail_cons])))); done); refine Cl.new (hp2 _) (fun _ _ _ _ => ?_); conv => whnf) | ((with_reducible refine (?_ : Cl _ 24 _ _ _ _)); (refine Cl.is (hsm _ _ _ _ _ (by ((repeat ((refine Rd.own 3 rfl ?_); (assumption))); done)) (by ((repeat ((refine Rd.own 0 rfl ?_); (assumption))); done))) ?_); conv => whnf) | ((refine Cl.isAt 4 rfl (Try.parState bp _ _ _ _ _ _) ?_); conv => whnf) | ((refine Cl.isAt 1 rfl (Try.parState bq _ _ _ _ _ _) ?_); conv => whnf)))
            all_goals exact ⟨k + 1, opnF q, by kernel_rfl, by (refine FEnt.ent ?_; (repeat (first | exact FEnt.rfl | (refine FEnt.at 1 rfl ?_; (try simp only [List.eraseIdx_cons_zero, List.eraseIdx_cons_succ, List.eraseIdx_zero, List.tail_cons])) | (refine FEnt.at 4 rfl ?_; (try simp only [List.eraseIdx_cons_zero, List.eraseIdx_cons_succ, List.eraseIdx_zero, List.tail_cons])) | (refine FEnt.at 6 rfl ?_; (try simp only [List.eraseIdx_cons_zero, List.eraseIdx_cons_succ, List.eraseIdx_zero, List.tail_cons])) | refine FEnt.drop ?_)); done), ⟨by omega, opn_ok hq, h3⟩, by omega⟩
          · have hp1 := fun L => Try.parStep bp bm pre post 500 N 1 (ds.getD k pdE.d).2 q L (by omega) (by omega) (by omega) hq hdk
            have hp2 := fun L => Try.parStep bq bm2 pre2 post2 0 N 2 (ds.getD k pdE.d).2 q L (by omega) (by omega) (by omega) hq hdk
            have hln := pstL_len q (ds.getD k pdE.d).2
            have hsm := fun a1 a2 c1 c2 L h1 h2 => Try.refSameM a1 a2 c1 c2 (pstL q (ds.getD k pdE.d).2) L (by omega) h1 h2
            have hok2 := pst_ok (f := (ds.getD k pdE.d).2) hq
            have hlen2 := pst_len q (ds.getD k pdE.d).2
            have ho' : (ds.getD k pdE.d).1 = false := by simpa using ho
            generalize pstL q (ds.getD k pdE.d).2 = l at *
            generalize pstB q = bt at *
            generalize pstF q (ds.getD k pdE.d).2 = q2 at *
            conv => whnf
            repeat' (first
              | (first | ((with_reducible refine Br.tt ?_); conv => whnf) | ((with_reducible refine Br.ff ?_); conv => whnf) | ((with_reducible refine Br.nt ?_); conv => whnf) | ((with_reducible refine Br.dt ?_ ?_); (focus (first | assumption | omega)); conv => whnf) | ((with_reducible refine Br.nef ?_ ?_); (focus (first | rfl | assumption)); conv => whnf) | ((with_reducible refine Br.no ?_ ?_); (focus assumption); conv => whnf))
              | ((with_reducible refine Ar.i64 ?_ ?_); (focus omega); conv => whnf)
              | ((with_reducible refine Nd.mk ?_ ?_); (focus (first | omega | rfl | assumption | (simp; done))); conv => whnf)
              | ((with_reducible refine Ix.ad ?_ ?_ ?_); (focus (exact Rd.ad (by assumption))); (focus (omega)); conv => whnf)
              | (refine Eqs.is rfl (by kernel_rfl) ?_; conv => whnf)
              | ((with_reducible apply Ld.rdk0); (focus ((repeat (first | assumption | apply Rd.cons)); done)); (focus rfl); (focus (omega)); (focus rfl); conv => whnf)
              | ((with_reducible apply LdN.rdkj); (focus ((repeat (first | assumption | apply Rd.cons)); done)); (focus rfl); (focus rfl); (focus (omega)); conv => whnf)
              | (first | (apply (Cl.pre [ptc bp _ _, Try.memH bm _]); (focus ((repeat (first | exact FEnt.rfl | (refine FEnt.at 1 rfl ?_; (try simp only [List.eraseIdx_cons_zero, List.eraseIdx_cons_succ, List.eraseIdx_zero, List.tail_cons])) | (refine FEnt.at 4 rfl ?_; (try simp only [List.eraseIdx_cons_zero, List.eraseIdx_cons_succ, List.eraseIdx_zero, List.tail_cons])))); done)); refine Cl.exs (hp1 _) ?_; rintro ⟨a5, c5⟩ ⟨hc5, had5⟩; conv => whnf) | (apply (Cl.pre [ptc bq _ _, Try.memH bm2 _]); (focus ((repeat (first | exact FEnt.rfl | (refine FEnt.at 1 rfl ?_; (try simp only [List.eraseIdx_cons_zero, List.eraseIdx_cons_succ, List.eraseIdx_zero, List.tail_cons])) | (refine FEnt.at 4 rfl ?_; (try simp only [List.eraseIdx_cons_zero, List.eraseIdx_cons_succ, List.eraseIdx_zero, List.tail_cons])))); done)); refine Cl.exs (hp2 _) ?_; rintro ⟨a6, c6⟩ ⟨hc6, had6⟩; conv => whnf) | ((with_reducible refine (?_ : Cl _ 24 _ _ _ _)); (refine Cl.is (hsm _ _ _ _ _ (by ((repeat ((refine Rd.own 3 rfl ?_); (assumption))); done)) (by ((repeat ((refine Rd.own 0 rfl ?_); (assumption))); done))) ?_); conv => whnf) | ((refine Cl.isAt 4 rfl (Try.parState bp _ _ _ _ _ _) ?_); conv => whnf) | ((refine Cl.isAt 1 rfl (Try.parState bq _ _ _ _ _ _) ?_); conv => whnf)))
            all_goals exact ⟨k + 1, q2, by kernel_rfl, by (refine FEnt.ent ?_; (repeat (first | exact FEnt.rfl | (refine FEnt.at 1 rfl ?_; (try simp only [List.eraseIdx_cons_zero, List.eraseIdx_cons_succ, List.eraseIdx_zero, List.tail_cons])) | (refine FEnt.at 4 rfl ?_; (try simp only [List.eraseIdx_cons_zero, List.eraseIdx_cons_succ, List.eraseIdx_zero, List.tail_cons])) | (refine FEnt.at 6 rfl ?_; (try simp only [List.eraseIdx_cons_zero, List.eraseIdx_cons_succ, List.eraseIdx_zero, List.tail_cons])) | refine FEnt.drop ?_)); done), ⟨by omega, hok2, hlen2.trans h3⟩, by omega⟩
        · conv => whnf
          repeat' (first
            | (first | ((with_reducible refine Br.tt ?_); conv => whnf) | ((with_reducible refine Br.ff ?_); conv => whnf) | ((with_reducible refine Br.df ?_ ?_); (focus (first | assumption | omega)); conv => whnf))
            | ((with_reducible refine Br.ds (fun _ => ?_) (fun _ => ?_) ) <;> (conv => whnf)))
          all_goals exact ⟨k, q, by kernel_rfl, by (exact Ent.rfl), h3⟩
      · rintro k q h3
        conv => whnf
        repeat (intro _; conv => whnf)
        have hx := seg_len2 hpl h3 hql
        have hdd := diff_seg hpl hql hVl h3
        have hR : (runF (max (pre ++ V0 ++ post).length (pre ++ q.V ++ post).length : Nat) (unl 0 (pre ++ V0 ++ post) (pre ++ q.V ++ post))).length ≤ max (pre ++ V0 ++ post).length (pre ++ q.V ++ post).length := runs_len runs_ok
        have hdf := fun L => Try.memDiff bf bm (pre ++ V0 ++ post) (pre ++ q.V ++ post) L (by omega) (by omega)
        have hR0 : (runF (max (pre ++ V0 ++ post).length (pre ++ q.V ++ post).length : Nat) (unl 0 (pre ++ V0 ++ post) (pre ++ q.V ++ post))).length ≤ 1000000 := by omega
        clear hR
        generalize runF (max (pre ++ V0 ++ post).length (pre ++ q.V ++ post).length : Nat) (unl 0 (pre ++ V0 ++ post) (pre ++ q.V ++ post)) = R at *
        conv => whnf
        repeat' (apply (Cl.pre [Try.memH bf _, Try.memH bm _]); (focus (repeat (first | exact FEnt.rfl | (refine FEnt.at 0 rfl ?_; (try simp only [List.eraseIdx_cons_zero, List.eraseIdx_cons_succ, List.eraseIdx_zero, List.tail_cons])) | (refine FEnt.at 1 rfl ?_; (try simp only [List.eraseIdx_cons_zero, List.eraseIdx_cons_succ, List.eraseIdx_zero, List.tail_cons])))); done); refine Cl.new (hdf _) (fun _ _ _ _ => ?_); conv => whnf)
        rename_i a3 c3 hc3 had3
        conv => whnf
        refine Lp.by Try.tysOk [22] (fun (k : Nat) => [.int .i64 k]) (fun k => own spE 69 a3 c3 R :: L) (fun k => k ≤ R.length) (fun k => R.length - k) (0) (by kernel_rfl) (by (refine FEnt.ent ?_; (repeat (first | exact FEnt.rfl | (refine FEnt.at 0 rfl ?_; (try simp only [List.eraseIdx_cons_zero, List.eraseIdx_cons_succ, List.eraseIdx_zero, List.tail_cons])) | refine FEnt.drop ?_)); done)) (by omega) ?_
        rintro k2 g1
        conv => whnf
        repeat (intro _; conv => whnf)
        by_cases hk2 : k2 < R.length
        · have hin := hdd _ (getD_mem (d := spE.d) hk2)
          conv => whnf
          repeat' (first
            | (first | ((with_reducible refine Br.ff ?_); conv => whnf) | ((with_reducible refine Br.dt ?_ ?_); (focus (first | assumption | omega)); conv => whnf) | ((with_reducible refine Br.df ?_ ?_); (focus (first | assumption | omega)); conv => whnf))
            | ((with_reducible refine Ar.i64 ?_ ?_); (focus omega); conv => whnf)
            | ((with_reducible refine Ix.ad ?_ ?_ ?_); (focus (assumption)); (focus (omega)); conv => whnf)
            | ((first | (with_reducible apply Ld.rdk) | (with_reducible apply Ld.rdk0)); (focus ((repeat ((refine Rd.own 0 rfl ?_); (assumption))); done)); (focus rfl); (focus (omega)); (focus rfl); conv => whnf))
          all_goals exact ⟨k2 + 1, by kernel_rfl, by (exact Ent.rfl), by omega, by omega⟩
        · conv => whnf
          repeat' (first
            | ((with_reducible refine Br.df ?_ ?_); (focus (first | assumption | omega)); conv => whnf)
            | ((with_reducible refine Cl.is (Try.partLive _) ?_); conv => whnf))
          all_goals (refine Is.ent ?_ ?_; (focus (refine FEnt.ent ?_; (repeat (first | exact FEnt.rfl | refine FEnt.drop ?_)); done)); (exact Is.rfl))
  · refine con_of Try.tysOk Try.func6 rfl rfl ?_
    conv => whnf
    repeat' (first
      | (first | ((with_reducible refine Br.tt ?_); conv => whnf) | ((with_reducible refine Br.ff ?_); conv => whnf) | ((with_reducible refine Br.dt ?_ ?_); (focus (first | assumption | omega)); conv => whnf))
      | ((with_reducible refine Cl.is (Try.partLive _) ?_); conv => whnf)
      | ((with_reducible refine Br.ds (fun _ => ?_) (fun _ => ?_) ) <;> (conv => whnf)))
    all_goals (refine Is.ent ?_ ?_; (focus (exact Ent.rfl)); (exact Is.rfl))
end Go.Proofs
