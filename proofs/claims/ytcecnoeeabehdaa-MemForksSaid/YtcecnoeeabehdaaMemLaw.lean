/- The memory's laws: deeds, played on a memory and on the document's. -/
import Derived.Test.YtcecnoeeabehdaaRefMem
set_option linter.all false
namespace Go.Proofs
open Go.Eng
set_option linter.unusedVariables false
set_option maxRecDepth 100000
set_option maxHeartbeats 600000
theorem Try.memLive (L : List HP) : Con Try.prog 8 [] L (Is (.bool true) L) := by
  have g1 : bAt (lay (zeros (min (max 8 0) 16384 : Int).toNat) 2 (putB 513)) 2 = 1 := by decide
  have g2 : bAt (lay (zeros (min (max 8 0) 16384 : Int).toNat) 2 (putB 513)) 2 + 256 * bAt (lay (zeros (min (max 8 0) 16384 : Int).toNat) 2 (putB 513)) (2 + 1) = 513 := by decide
  have g3 : ((lay (zeros (min (max 8 0) 16384 : Int).toNat) 2 (putB 513)).length : Int) = 8 := by decide
  refine con_of Try.tysOk Try.func8 rfl rfl ?_
  conv => whnf
  repeat' (first
    | (first | ((with_reducible refine Br.tt ?_); conv => whnf) | ((with_reducible refine Br.dt ?_ ?_); (focus (first | assumption | omega)); conv => whnf))
    | ((with_reducible refine Nd.mk ?_ ?_); (focus (first | omega | rfl | assumption | (simp; done))); conv => whnf)
    | (first | ((with_reducible refine Cl.exs (Try.memNew 8 _ ⟨by omega, by omega⟩) (fun b _ => ?_)); conv => whnf) | ((refine Cl.isAt 0 rfl (Try.memSet2 _ _ 2 2 513 _ (by decide) rfl ⟨by omega, by omega⟩ (by decide)) ?_); conv => whnf) | ((refine Cl.isAt 0 rfl (Try.memGet _ _ 2 2 _ (by decide) rfl (by decide)) ?_); conv => whnf) | ((refine Cl.isAt 0 rfl (Try.memGet2 _ _ 2 2 _ (by decide) rfl (by decide)) ?_); conv => whnf) | ((refine Cl.isAt 0 rfl (Try.memSet2No _ _ 7 1 _ (by decide) ⟨by omega, by omega⟩ (by decide)) ?_); conv => whnf) | ((refine Cl.isAt 0 rfl (Try.memSize _ _ _) ?_); conv => whnf)))
  refine Is.ent (by (refine FEnt.ent ?_; (repeat (first | exact FEnt.rfl | refine FEnt.drop ?_)); done)) (Is.val ?_)
  rw [decide_eq_true g3]
/-- a deed -/
abbrev Deed := Int × Int × Int × ByteArray
def deedE : Enc Deed := ⟨4, fun d => [i64V d.1, i64V d.2.1, i64V d.2.2.1, .string d.2.2.2], (0, 0, 0, ByteArray.empty), fun _ => rfl, by omega, fun _ => rfl⟩
abbrev deedV (d : Deed) : Value := .agg #[i64V d.1, i64V d.2.1, i64V d.2.2.1, .string d.2.2.2]
abbrev deedI (d : Deed) : Prop := I64 d.1 ∧ I64 d.2.1 ∧ I64 d.2.2.1
/-- the bytes that a deed writes -/
def deedB (d : Deed) : List UInt8 := if d.1 = 0 then [u8of d.2.2.1] else if d.1 = 1 then putB d.2.2.1 else d.2.2.2.data.toList
def wroteF (xs : List UInt8) (d : Deed) : List UInt8 := if thr xs.length d.2.1 (deedB d).length then lay xs d.2.1.toNat (deedB d) else xs
theorem wroteF_len (xs : List UInt8) (d : Deed) : (wroteF xs d).length = xs.length := by
  unfold wroteF
  split
  · rename_i h; rw [lay_len (by unfold thr at h; omega)]
  · rfl
/-- the document's bytes, and what is beside them: as before, or with more -/
structure Bts (A : HP) (xs : List UInt8) (x : HP × Option Addr × Nat) : Prop where
  read : Rd intE [x.1] x.2.1 (ints xs)
  keeps : Ent [x.1] [A]
  cap : (ints xs).length ≤ x.2.2
theorem lay_one {α : Type} {xs : List α} {k : Nat} {x : α} (h : k < xs.length) : lay xs k [x] = xs.set k x := by
  unfold lay
  rw [List.set_eq_take_append_cons_drop, if_pos h]
  simp
theorem Try.wrote (b : Nat) (xs : List UInt8) (A : HP) (a : Option Addr) (c : Nat) (d : Deed) (L : List HP) (hx : xs.length ≤ 1000) (hd : deedI d) (hs : d.2.2.2.size ≤ 300) (hc : (ints xs).length ≤ c) (hr : Rd intE [A] a (ints xs)) :
    Con Try.prog 21 [pV b, .slice a (ints xs).length c, deedV d] (Try.memH b xs :: A :: L)
      (Exs (fun x : HP × Option Addr × Nat => .tuple #[.slice x.2.1 (ints (wroteF xs d)).length x.2.2, .bool true]) (fun x => Try.memH b (wroteF xs d) :: x.1 :: L) (Bts A (wroteF xs d))) := by
  obtain ⟨o, p, n, s⟩ := d
  obtain ⟨ho, hp, hn⟩ := hd
  simp only at ho hp hn hs
  dsimp only [deedV]
  have hl := ints_len xs
  have hss := size_list s
  have hq : (putB n).length = 2 := rfl
  by_cases ht : thr xs.length p (deedB (o, p, n, s)).length
  · have e : wroteF xs (o, p, n, s) = lay xs p.toNat (deedB (o, p, n, s)) := if_pos ht
    rw [e]
    obtain ⟨k, rfl⟩ := Int.eq_ofNat_of_zero_le ht.1
    rw [Int.toNat_natCast]
    by_cases h0 : o = 0
    · subst h0
      have hB : deedB (0, (k : Int), n, s) = [u8of n] := rfl
      rw [hB] at ht ⊢
      have hk : k + 1 ≤ xs.length := by have := ht.2; simp at this; omega
      refine con_of Try.tysOk Try.func21 rfl rfl ?_
      conv => whnf
      repeat' (first
        | (first | ((with_reducible refine Br.nt ?_); conv => whnf) | ((with_reducible refine Br.dt ?_ ?_); (focus (first | assumption | omega)); conv => whnf))
        | ((with_reducible refine Nc.go' (fun b => ?_)); conv => whnf)
        | ((with_reducible refine Fk.mk ?_ ?_) <;> (conv => whnf))
        | (with_reducible exact True.intro)
        | (first | (refine Ld.at 0 rfl rfl ?_; conv => whnf) | (refine Ld.at 1 rfl rfl ?_; conv => whnf))
        | ((with_reducible refine Dr.tree (id := 6) Try.tysOk rfl (.one 0 0 (.one 3 0 (.one 4 0 (.one 6 0 (.one 5 1 (.one 7 1 (.fork 1 1 (.fork 2 2 (.one 8 3 (.one 9 0 (.one 10 0 .nil))) (.fork 8 3 (.one 2 2 (.one 9 0 (.one 10 0 .nil))) .nil)) (.fork 8 3 (.one 1 1 (.one 2 2 (.one 9 0 (.one 10 0 .nil)))) .nil)))))))) ?_ _ ?_ (fun _ _ h => h)); (focus kernel_rfl); conv => whnf)
        | (first | ((first | refine Cl.isAt 1 rfl (Try.memSet _ _ k _ _ _ (by omega) rfl hk) ?_ | refine Cl.isAt 2 rfl (Try.memSet _ _ k _ _ _ (by omega) rfl hk) ?_); conv => whnf) | ((with_reducible refine Cl.is (Try.refThereT _ _ _ _ _ _ (by omega) ⟨by omega, by omega⟩ (by omega) ⟨by omega, by omega⟩) ?_); conv => whnf))
        | ((refine Cl.new (Try.refWithB _ _ _ _ k _ xs [u8of n] [n] _ (by omega) rfl (by simp; omega) (by ((repeat (first | assumption | exact Rd.hd (by assumption) | apply Rd.cons)); done)) (by first | exact Rd.ptc 0 rfl [n] rfl | exact Rd.ptc 1 rfl [n] rfl | exact Rd.ptc 2 rfl [n] rfl) (by simpa using hn) (by simp [ints, low, u8of_int])) (fun _ _ _ _ => ?_)); conv => whnf))
      all_goals (rename_i a3 c3 hc3 had3; rw [← lay_one (by omega)]; exact Exs.of (star A (own intE 3 a3 c3 _), a3, c3) (by dsimp only; (refine FEnt.ent ?_; (repeat (first | exact FEnt.rfl | (refine FEnt.at 0 rfl ?_; (try simp only [List.eraseIdx_cons_zero, List.eraseIdx_cons_succ, List.eraseIdx_zero, List.tail_cons])) | (refine FEnt.at 3 rfl ?_; (try simp only [List.eraseIdx_cons_zero, List.eraseIdx_cons_succ, List.eraseIdx_zero, List.tail_cons])) | refine FEnt.star ?_ | refine FEnt.drop ?_)); done)) (Bts.mk ((Rd.own 0 rfl had3).ent ent_star2) ent_star1 hc3) rfl)
    · by_cases h1 : o = 1
      · subst h1
        have hB : deedB (1, (k : Int), n, s) = putB n := rfl
        rw [hB] at ht ⊢
        have hk : k + 2 ≤ xs.length := by have := ht.2; rw [hq] at this; omega
        refine con_of Try.tysOk Try.func21 rfl rfl ?_
        conv => whnf
        repeat' (first
          | (first | ((with_reducible refine Br.nt ?_); conv => whnf) | ((with_reducible refine Br.dt ?_ ?_); (focus (first | assumption | omega)); conv => whnf) | ((with_reducible refine Br.df ?_ ?_); (focus (first | assumption | omega)); conv => whnf))
          | ((with_reducible refine Nc.go' (fun b => ?_)); conv => whnf)
          | ((with_reducible refine Fk.mk ?_ ?_) <;> (conv => whnf))
          | (with_reducible exact True.intro)
          | (first | (refine Ld.at 0 rfl rfl ?_; conv => whnf) | (refine Ld.at 1 rfl rfl ?_; conv => whnf))
          | ((with_reducible refine Dr.tree (id := 8) Try.tysOk rfl (.one 0 0 (.one 3 0 (.one 7 0 (.one 8 0 (.one 10 0 (.one 1 1 (.one 2 1 (.one 4 1 (.one 5 1 (.one 9 1 (.one 11 1 (.fork 6 2 (.one 12 3 (.one 13 0 (.one 14 0 .nil))) (.fork 12 3 (.one 6 2 (.one 13 0 (.one 14 0 .nil))) .nil))))))))))))) ?_ _ ?_ (fun _ _ h => h)); (focus kernel_rfl); conv => whnf)
          | (first | ((with_reducible refine CD.is (fun M => Try.refLow _ hn _) ?_); conv => whnf) | ((with_reducible refine CD.is (fun M => Try.refHigh _ hn _) ?_); conv => whnf))
          | (first | ((first | refine Cl.isAt 1 rfl (Try.memSet2 _ _ k _ _ _ (by omega) rfl hn hk) ?_ | refine Cl.isAt 2 rfl (Try.memSet2 _ _ k _ _ _ (by omega) rfl hn hk) ?_); conv => whnf) | ((with_reducible refine Cl.is (Try.refThereT _ _ _ _ _ _ (by omega) ⟨by omega, by omega⟩ (by omega) ⟨by omega, by omega⟩) ?_); conv => whnf))
          | ((refine Cl.new (Try.refWithB _ _ _ _ k _ xs (putB n) [n % 256, n / 256 % 256] _ (by omega) rfl (by simp; omega) (by ((repeat (first | assumption | exact Rd.hd (by assumption) | apply Rd.cons)); done)) (by first | exact Rd.ptc 0 rfl [_, _] rfl | exact Rd.ptc 1 rfl [_, _] rfl | exact Rd.ptc 2 rfl [_, _] rfl) (by simp; omega) (by simp [ints, low, putB, u8of_int])) (fun _ _ _ _ => ?_)); conv => whnf))
        all_goals (rename_i a3 c3 hc3 had3; exact Exs.of (star A (own intE 3 a3 c3 _), a3, c3) (by dsimp only; (refine FEnt.ent ?_; (repeat (first | exact FEnt.rfl | (refine FEnt.at 0 rfl ?_; (try simp only [List.eraseIdx_cons_zero, List.eraseIdx_cons_succ, List.eraseIdx_zero, List.tail_cons])) | (refine FEnt.at 3 rfl ?_; (try simp only [List.eraseIdx_cons_zero, List.eraseIdx_cons_succ, List.eraseIdx_zero, List.tail_cons])) | refine FEnt.star ?_ | refine FEnt.drop ?_)); done)) (Bts.mk ((Rd.own 0 rfl had3).ent ent_star2) ent_star1 hc3) rfl)
      · have hB : deedB (o, (k : Int), n, s) = s.data.toList := (if_neg h0).trans (if_neg h1)
        rw [hB] at ht ⊢
        have hls := ints_len s.data.toList
        have hk : k + s.size ≤ xs.length := by have := ht.2; rw [hss] at this; omega
        have hmap : ints s.data.toList = (ints s.data.toList).map low := by
          rw [← ints_u8of, u8of_ints]
        refine con_of Try.tysOk Try.func21 rfl rfl ?_
        conv => whnf
        repeat' (first
          | (first | ((with_reducible refine Br.nt ?_); conv => whnf) | ((with_reducible refine Br.df ?_ ?_); (focus (first | assumption | omega)); conv => whnf))
          | ((with_reducible refine Nc.go' (fun b => ?_)); conv => whnf)
          | (first | (refine Ld.at 0 rfl rfl ?_; conv => whnf) | (refine Ld.at 1 rfl rfl ?_; conv => whnf))
          | ((with_reducible refine Dr.by (id := 4) Try.tysOk rfl [(0, 0), (3, 0), (4, 0), (6, 0), (1, 1), (5, 1), (7, 1), (2, 4), (8, 3), (9, 0), (10, 0)] ?_ ?_); (focus kernel_rfl); conv => whnf)
          | ((with_reducible refine CN.new (fun M => Try.refBytes _ _ (by omega)) (fun _ _ _ _ => ?_)); conv => whnf)
          | (first | ((refine Cl.isAt 2 rfl (Try.memPut _ _ k _ _ _ (by omega) rfl hk) ?_); conv => whnf) | ((with_reducible refine Cl.is (Try.refThereT _ _ _ _ _ _ (by omega) ⟨by omega, by omega⟩ (by omega) ⟨by omega, by omega⟩) ?_); conv => whnf))
          | ((refine Cl.new (Try.refWithB _ _ _ _ k _ xs s.data.toList (ints s.data.toList) _ (by omega) rfl (by omega) (by ((repeat (first | assumption | exact Rd.hd (by assumption) | apply Rd.cons)); done)) (by ((repeat (first | ((refine Rd.own 0 rfl ?_); (assumption)) | apply Rd.cons)); done)) (fun x hx => by obtain ⟨u, _, rfl⟩ := List.mem_map.1 hx; exact u8I u) hmap) (fun _ _ _ _ => ?_)); conv => whnf))
        all_goals (rename_i a3 c3 hc3 had3; exact Exs.of (star A (own intE 3 a3 c3 _), a3, c3) (by dsimp only; (refine FEnt.ent ?_; (repeat (first | exact FEnt.rfl | (refine FEnt.at 0 rfl ?_; (try simp only [List.eraseIdx_cons_zero, List.eraseIdx_cons_succ, List.eraseIdx_zero, List.tail_cons])) | (refine FEnt.at 3 rfl ?_; (try simp only [List.eraseIdx_cons_zero, List.eraseIdx_cons_succ, List.eraseIdx_zero, List.tail_cons])) | refine FEnt.star ?_ | refine FEnt.drop ?_)); done)) (Bts.mk ((Rd.own 0 rfl had3).ent ent_star2) ent_star1 hc3) rfl)
  · have e : wroteF xs (o, p, n, s) = xs := if_neg ht
    rw [e]
    by_cases h0 : o = 0
    · subst h0
      have hB : deedB (0, p, n, s) = [u8of n] := rfl
      rw [hB] at ht
      have hk : ¬ thr xs.length p 1 := ht
      have hk' : ¬ thr (ints xs).length p 1 := by rw [hl]; exact ht
      refine con_of Try.tysOk Try.func21 rfl rfl ?_
      conv => whnf
      repeat' (first
        | (first | ((with_reducible refine Br.nf ?_); conv => whnf) | ((with_reducible refine Br.dt ?_ ?_); (focus (first | assumption | omega)); conv => whnf))
        | ((with_reducible refine Nc.go' (fun b => ?_)); conv => whnf)
        | ((with_reducible refine Fk.mk ?_ ?_) <;> (conv => whnf))
        | (with_reducible exact True.intro)
        | (first | (refine Ld.at 0 rfl rfl ?_; conv => whnf) | (refine Ld.at 1 rfl rfl ?_; conv => whnf))
        | ((with_reducible refine Dr.tree (id := 6) Try.tysOk rfl (.one 0 0 (.one 3 0 (.one 4 0 (.one 6 0 (.one 5 1 (.one 7 1 (.fork 1 1 (.fork 2 2 (.one 8 3 (.one 9 0 (.one 10 0 .nil))) (.fork 8 3 (.one 2 2 (.one 9 0 (.one 10 0 .nil))) .nil)) (.fork 8 3 (.one 1 1 (.one 2 2 (.one 9 0 (.one 10 0 .nil)))) .nil)))))))) ?_ _ ?_ (fun _ _ h => h)); (focus kernel_rfl); conv => whnf)
        | (first | ((first | refine Cl.isAt 1 rfl (Try.memSetNo _ _ _ _ _ (by omega) hp hk) ?_ | refine Cl.isAt 2 rfl (Try.memSetNo _ _ _ _ _ (by omega) hp hk) ?_); conv => whnf) | ((with_reducible refine Cl.is (Try.refThereF _ _ _ _ _ _ (by omega) hp ⟨by omega, by omega⟩ (by omega) (mt (fun h => ⟨by omega, by omega⟩) hk')) ?_); conv => whnf)))
      all_goals (refine Exs.of (A, _, _) (by (refine FEnt.ent ?_; (repeat (first | exact FEnt.rfl | (refine FEnt.at 2 rfl ?_; (try simp only [List.eraseIdx_cons_zero, List.eraseIdx_cons_succ, List.eraseIdx_zero, List.tail_cons])) | refine FEnt.drop ?_)); done)) (Bts.mk hr Ent.rfl hc) rfl)
    · by_cases h1 : o = 1
      · subst h1
        have hB : deedB (1, p, n, s) = putB n := rfl
        rw [hB] at ht
        have hk : ¬ thr xs.length p 2 := ht
        have hk' : ¬ thr (ints xs).length p 2 := by rw [hl]; exact ht
        refine con_of Try.tysOk Try.func21 rfl rfl ?_
        conv => whnf
        repeat' (first
          | (first | ((with_reducible refine Br.nf ?_); conv => whnf) | ((with_reducible refine Br.dt ?_ ?_); (focus (first | assumption | omega)); conv => whnf) | ((with_reducible refine Br.df ?_ ?_); (focus (first | assumption | omega)); conv => whnf))
          | ((with_reducible refine Nc.go' (fun b => ?_)); conv => whnf)
          | ((with_reducible refine Fk.mk ?_ ?_) <;> (conv => whnf))
          | (with_reducible exact True.intro)
          | (first | (refine Ld.at 0 rfl rfl ?_; conv => whnf) | (refine Ld.at 1 rfl rfl ?_; conv => whnf))
          | ((with_reducible refine Dr.tree (id := 8) Try.tysOk rfl (.one 0 0 (.one 3 0 (.one 7 0 (.one 8 0 (.one 10 0 (.one 1 1 (.one 2 1 (.one 4 1 (.one 5 1 (.one 9 1 (.one 11 1 (.fork 6 2 (.one 12 3 (.one 13 0 (.one 14 0 .nil))) (.fork 12 3 (.one 6 2 (.one 13 0 (.one 14 0 .nil))) .nil))))))))))))) ?_ _ ?_ (fun _ _ h => h)); (focus kernel_rfl); conv => whnf)
          | (first | ((with_reducible refine CD.is (fun M => Try.refLow _ hn _) ?_); conv => whnf) | ((with_reducible refine CD.is (fun M => Try.refHigh _ hn _) ?_); conv => whnf))
          | (first | ((first | refine Cl.isAt 1 rfl (Try.memSet2No _ _ _ _ _ (by omega) hp hk) ?_ | refine Cl.isAt 2 rfl (Try.memSet2No _ _ _ _ _ (by omega) hp hk) ?_); conv => whnf) | ((with_reducible refine Cl.is (Try.refThereF _ _ _ _ _ _ (by omega) hp ⟨by omega, by omega⟩ (by omega) (mt (fun h => ⟨by omega, by omega⟩) hk')) ?_); conv => whnf)))
        all_goals (refine Exs.of (A, _, _) (by (refine FEnt.ent ?_; (repeat (first | exact FEnt.rfl | (refine FEnt.at 2 rfl ?_; (try simp only [List.eraseIdx_cons_zero, List.eraseIdx_cons_succ, List.eraseIdx_zero, List.tail_cons])) | refine FEnt.drop ?_)); done)) (Bts.mk hr Ent.rfl hc) rfl)
      · have hB : deedB (o, p, n, s) = s.data.toList := (if_neg h0).trans (if_neg h1)
        rw [hB] at ht
        have hls := ints_len s.data.toList
        have hk : ¬ thr xs.length p s.size := by rw [← hss]; exact ht
        have hk' : ¬ thr (ints xs).length p (ints s.data.toList).length := by rw [hl, hls]; exact ht
        refine con_of Try.tysOk Try.func21 rfl rfl ?_
        conv => whnf
        repeat' (first
          | (first | ((with_reducible refine Br.nf ?_); conv => whnf) | ((with_reducible refine Br.df ?_ ?_); (focus (first | assumption | omega)); conv => whnf))
          | ((with_reducible refine Nc.go' (fun b => ?_)); conv => whnf)
          | (first | (refine Ld.at 0 rfl rfl ?_; conv => whnf) | (refine Ld.at 1 rfl rfl ?_; conv => whnf))
          | ((with_reducible refine Dr.by (id := 4) Try.tysOk rfl [(0, 0), (3, 0), (4, 0), (6, 0), (1, 1), (5, 1), (7, 1), (2, 4), (8, 3), (9, 0), (10, 0)] ?_ ?_); (focus kernel_rfl); conv => whnf)
          | ((with_reducible refine CN.new (fun M => Try.refBytes _ _ (by omega)) (fun _ _ _ _ => ?_)); conv => whnf)
          | (first | ((refine Cl.isAt 2 rfl (Try.memPutNo _ _ _ _ _ (by omega) hp (by omega) hk) ?_); conv => whnf) | ((with_reducible refine Cl.is (Try.refThereF _ _ _ _ _ _ (by omega) hp ⟨by omega, by omega⟩ (by omega) (mt (fun h => ⟨by omega, by omega⟩) hk')) ?_); conv => whnf)))
        all_goals (refine Exs.of (A, _, _) (by (refine FEnt.ent ?_; (repeat (first | exact FEnt.rfl | (refine FEnt.at 2 rfl ?_; (try simp only [List.eraseIdx_cons_zero, List.eraseIdx_cons_succ, List.eraseIdx_zero, List.tail_cons])) | refine FEnt.drop ?_)); done)) (Bts.mk hr Ent.rfl hc) rfl)
theorem Try.few (size : Int) (a : Option Addr) (c : Nat) (ds : List Deed) (L : List HP) (hc : ds.length ≤ c) (hm : c ≤ 9223372036854775807) (hr : Rd deedE L a ds) :
    Con Try.prog 7 [i64V size, .slice a ds.length c] L (Is (.bool (decide (size ≤ 400 ∧ ∀ d ∈ ds, d.2.2.2.size ≤ 300))) L) := by
  refine con_of Try.tysOk Try.func7 rfl rfl ?_
  conv => whnf
  refine Lp.by Try.tysOk [5] (fun (k : Nat) => [i64V k]) (fun k => L) (fun k => k ≤ ds.length ∧ ∀ j, j < k → (ds.getD j deedE.d).2.2.2.size ≤ 300) (fun k => ds.length - k) (0) (by kernel_rfl) (by (exact Ent.rfl)) (⟨by omega, fun j h => by omega⟩) ?_
  rintro k ⟨h1, h2⟩
  conv => whnf
  repeat (intro _; conv => whnf)
  by_cases hk : k < ds.length
  · by_cases hs : (ds.getD k deedE.d).2.2.2.size ≤ 300
    · conv => whnf
      repeat' (first
        | (first | ((with_reducible refine Br.dt ?_ ?_); (focus (first | assumption | omega)); conv => whnf) | ((with_reducible refine Br.df ?_ ?_); (focus (first | assumption | omega)); conv => whnf))
        | ((with_reducible refine Ar.i64 ?_ ?_); (focus omega); conv => whnf)
        | ((with_reducible refine Ix.ad ?_ ?_ ?_); (focus (exact Rd.ad (by assumption))); (focus (omega)); conv => whnf)
        | ((with_reducible apply Ld.rdk); (focus ((repeat (assumption)); done)); (focus rfl); (focus (omega)); (focus rfl); conv => whnf))
      refine ⟨k + 1, by kernel_rfl, by (exact Ent.rfl), ⟨by omega, lt_step h2 hs⟩, by omega⟩
    · conv => whnf
      repeat' (first
        | ((with_reducible refine Br.dt ?_ ?_); (focus (first | assumption | omega)); conv => whnf)
        | ((with_reducible refine Ix.ad ?_ ?_ ?_); (focus (exact Rd.ad (by assumption))); (focus (omega)); conv => whnf)
        | ((with_reducible apply Ld.rdk); (focus ((repeat (assumption)); done)); (focus rfl); (focus (omega)); (focus rfl); conv => whnf))
      refine Is.ent (by (exact Ent.rfl)) (Is.ff ?_)
      exact fun h => hs (h.2 _ (getD_mem hk))
  · conv => whnf
    repeat' ((with_reducible refine Br.df ?_ ?_); (focus (first | assumption | omega)); conv => whnf)
    refine Is.ent (by (exact Ent.rfl)) (Is.dec ?_)
    have := (all_iff (xs := ds) (p := fun d : Deed => d.2.2.2.size ≤ 300) deedE.d).2 (fun i hi => h2 i (by omega))
    exact ⟨fun h => ⟨h, this⟩, fun h => h.1⟩
end Go.Proofs
