/- The engine of bursts: reading; bursts on it and on the document's memory. -/
import Derived.Test.YtpdgkadpffnmpaaDmaB
set_option linter.all false
namespace Go.Proofs
open Go.Eng
set_option linter.unusedVariables false
set_option maxRecDepth 100000
set_option maxHeartbeats 1000000
theorem Try.dmaRead1 (be bo bn bm bt m c : Nat) (a : Option Addr) (nr nw : Nat → Int) (q n : Int) (X Y Z W : HP) (M : List UInt8) (L : List HP) (hl : M.length ≤ 1000000) (hq : I64 q) (hi : I64 n) (hn : 0 ≤ n) (h : ¬ thr M.length q n) (b0 : Nat) :
    Con Try.prog 42 [i64V q, pV b0, pV bn, pV bo] (X :: ptc be 79 (engC bm bt a m c nr nw) :: Y :: Z :: W :: ptc b0 33 [pV be] :: ptc bn 3 [i64V n] :: ptc bo 9 [.string ⟨#[]⟩] :: Try.memH bm M :: L)
      (Is (i64V 6) (X :: ptc be 79 (engC bm bt a m c nr nw) :: Y :: Z :: W :: ptc b0 33 [pV be] :: ptc bn 3 [i64V n] :: ptc bo 9 [.string ⟨#[]⟩] :: Try.memH bm M :: L)) := by
  have ht : ∀ L, Con Try.prog 16 [pV bm, i64V q, i64V n] (Try.memH bm M :: L) (Is (.tuple #[.string ⟨#[]⟩, i64V 6]) (Try.memH bm M :: L)) := fun L => Try.memTextNo bm M q n L (by omega) hq hi hn h
  refine con_of Try.tysOk Try.func42 rfl rfl ?_
  conv => whnf
  repeat' (first
    | ((with_reducible refine Nd.mk ?_ ?_); (focus (first | omega | rfl | assumption | (simp; done))); conv => whnf)
    | (first | (refine Ld.at 1 rfl rfl ?_; conv => whnf) | (refine Ld.at 5 rfl rfl ?_; conv => whnf) | (refine Ld.at 6 rfl rfl ?_; conv => whnf))
    | (refine St.at 7 rfl (by first | exact Nat.le_of_ble_eq_true rfl | (simp; done)) rfl ?_; conv => whnf)
    | ((with_reducible refine Dr.by (id := 1) Try.tysOk rfl [(4, 0), (0, 1), (1, 0), (2, 0), (3, 1), (5, 1), (6, 1), (7, 0), (8, 0), (9, 0), (10, 3), (11, 0)] ?_ ?_); (focus kernel_rfl); conv => whnf)
    | ((with_reducible refine CD.isAt 8 rfl (fun M => ht _) ?_); conv => whnf))
  all_goals (refine Is.ent ?_ ?_; (focus (exact Ent.rfl)); (exact Is.rfl))
theorem Try.dmaRead2 (be bo bn bm bt m c : Nat) (a : Option Addr) (nr nw : Nat → Int) (k j : Nat) (q n : Int) (X Y Z W : HP) (M : List UInt8) (L : List HP) (hl : M.length ≤ 1000000) (hq : q = k) (hn : n = j) (h : k + j ≤ M.length) (b0 : Nat) :
    Con Try.prog 42 [i64V q, pV b0, pV bn, pV bo] (X :: ptc be 79 (engC bm bt a m c nr nw) :: Y :: Z :: W :: ptc b0 33 [pV be] :: ptc bn 3 [i64V n] :: ptc bo 9 [.string ⟨#[]⟩] :: Try.memH bm M :: L)
      (Is (i64V 0) (X :: ptc be 79 (engC bm bt a m c nr nw) :: Y :: Z :: W :: ptc b0 33 [pV be] :: ptc bn 3 [i64V n] :: ptc bo 9 [.string ⟨((M.take (k + j)).drop k).toArray⟩] :: Try.memH bm M :: L)) := by
  have ht := fun L => Try.memText bm M k j q n L (by omega) hq hn h
  generalize (⟨((M.take (k + j)).drop k).toArray⟩ : ByteArray) = S at *
  refine con_of Try.tysOk Try.func42 rfl rfl ?_
  conv => whnf
  repeat' (first
    | ((with_reducible refine Nd.mk ?_ ?_); (focus (first | omega | rfl | assumption | (simp; done))); conv => whnf)
    | (first | (refine Ld.at 1 rfl rfl ?_; conv => whnf) | (refine Ld.at 5 rfl rfl ?_; conv => whnf) | (refine Ld.at 6 rfl rfl ?_; conv => whnf))
    | (refine St.at 7 rfl (by first | exact Nat.le_of_ble_eq_true rfl | (simp; done)) rfl ?_; conv => whnf)
    | ((with_reducible refine Dr.by (id := 1) Try.tysOk rfl [(4, 0), (0, 1), (1, 0), (2, 0), (3, 1), (5, 1), (6, 1), (7, 0), (8, 0), (9, 0), (10, 3), (11, 0)] ?_ ?_); (focus kernel_rfl); conv => whnf)
    | ((with_reducible refine CD.isAt 8 rfl (fun M => ht _) ?_); conv => whnf))
  all_goals (refine Is.ent ?_ ?_; (focus (exact Ent.rfl)); (exact Is.rfl))
/-- the bytes that are read -/
def txtF (M : List UInt8) (at_ n : Int) : ByteArray := ⟨((M.take (at_.toNat + n.toNat)).drop at_.toNat).toArray⟩
/-- bytes are read at an owner's address -/
theorem Try.dmaRead (be bm bt m c : Nat) (a : Option Addr) (rs : List Rec) (nr nw : Nat → Int) (xs : List Rg) (t o p n : Int) (M : List UInt8) (L : List HP) (hl : rs.length ≤ 1000) (had : Ad a rs.length) (hcap : rs.length ≤ c) (hx : rgOk xs xs.length) (hp : I64 p) (hi : I64 n) (hM : M.length ≤ 20000) (hnr : ∀ i, 0 ≤ nr i ∧ nr i ≤ 1000000000) :
    Con Try.prog 26 [pV be, i64V t, i64V o, i64V p, i64V n] (Try.engP be bm bt m c a rs nr nw xs ++ Try.memH bm M :: L)
      (Exs (fun y : Option Addr × Nat => .tuple #[.string (if (askF xs M.length o p n).2 = 0 then txtF M (askF xs M.length o p n).1 n else ⟨#[]⟩), i64V (askF xs M.length o p n).2]) (fun y => Try.engP be bm bt m y.2 y.1 (recF rs t o p n false (askF xs M.length o p n).2) (if (askF xs M.length o p n).2 = 0 then upd nr o.toNat (nr o.toNat + n) else nr) nw xs ++ Try.memH bm M :: L)
        (fun y => (recF rs t o p n false (askF xs M.length o p n).2).length ≤ y.2 ∧ Ad y.1 (recF rs t o p n false (askF xs M.length o p n).2).length)) := by
  simp only [Try.engP, List.cons_append, List.nil_append]
  by_cases h0 : (askF xs M.length o p n).2 = 0
  · have hok := askF_ok hx h0
    have er : recF rs t o p n false (askF xs M.length o p n).2 = rs := if_pos h0
    rw [er, if_pos h0, if_pos h0, h0]
    obtain ⟨g1, g2, g3, g4, g5, g6⟩ := hok
    generalize (askF xs M.length o p n).1 = q at *
    obtain ⟨k, rfl⟩ := Int.eq_ofNat_of_zero_le g3.1
    obtain ⟨j, rfl⟩ := Int.eq_ofNat_of_zero_le g4
    have hno := hnr o.toNat
    have hbo := fun (b0 bn bo : Nat) L => Try.dmaBurstOk be bm bt m c a rs nr nw xs t o p j k false 42 [pV b0, pV bn, pV bo] (ptc b0 33 [pV be] :: ptc bn 3 [i64V j] :: ptc bo 9 [.string ⟨#[]⟩] :: Try.memH bm M :: L) _ hx ⟨hp, hi⟩ g1 g2 (fun X Y Z W => Try.dmaRead2 be bo bn bm bt _ c a nr nw k j k j X Y Z W M L (by omega) rfl rfl (by omega) b0)
    have et : (⟨((M.take (k + j)).drop k).toArray⟩ : ByteArray) = txtF M k j := rfl
    rw [et] at hbo
    generalize txtF M k j = S at *
    generalize xs.map kvR = es at *
    refine con_of Try.tysOk Try.func26 rfl rfl ?_
    conv => whnf
    repeat' (first
      | ((with_reducible refine Br.ndf ?_ ?_); (focus (first | assumption | omega)); conv => whnf)
      | ((with_reducible refine Ar.i64 ?_ ?_); (focus omega); conv => whnf)
      | ((with_reducible refine Nd.mk ?_ ?_); (focus (first | omega | rfl | assumption | (simp; done))); conv => whnf)
      | ((with_reducible refine Nc.go' (fun _ => ?_)); conv => whnf)
      | ((with_reducible refine Ix.arr ?_ ?_); (focus (omega)); conv => whnf)
      | (first | (refine Ld.eR 0 rfl ?_ ?_; (focus (omega)); conv => whnf) | (refine Ld.at 1 rfl rfl ?_; conv => whnf) | (refine Ld.at 2 rfl rfl ?_; conv => whnf) | (refine Ld.at 4 rfl rfl ?_; conv => whnf) | (refine Ld.at 5 rfl rfl ?_; conv => whnf) | (refine Ld.at 6 rfl rfl ?_; conv => whnf))
      | (first | (refine St.eR 0 rfl ?_ ?_; (focus (omega)); conv => whnf) | (refine St.at 0 rfl (by first | exact Nat.le_of_ble_eq_true rfl | (simp; done)) rfl ?_; conv => whnf))
      | ((with_reducible refine Dr.by (id := 5) Try.tysOk rfl [(1, 0), (0, 1), (2, 0), (3, 0), (4, 0), (8, 0), (9, 0), (5, 1), (6, 1), (7, 0), (10, 0), (11, 3)] ?_ ?_); (focus kernel_rfl); conv => whnf)
      | (apply (Cl.pre [ptc be _ _, ptc bt _ _, mapH m _ _, own recE _ a c rs, ptc _ 33 _, ptc _ 3 _, ptc _ 9 _, Try.memH bm M]); (focus (repeat (first | exact FEnt.rfl | (refine FEnt.at 1 rfl ?_; (try simp only [List.eraseIdx_cons_zero, List.eraseIdx_cons_succ, List.eraseIdx_zero, List.tail_cons])) | (refine FEnt.at 2 rfl ?_; (try simp only [List.eraseIdx_cons_zero, List.eraseIdx_cons_succ, List.eraseIdx_zero, List.tail_cons])) | (refine FEnt.at 3 rfl ?_; (try simp only [List.eraseIdx_cons_zero, List.eraseIdx_cons_succ, List.eraseIdx_zero, List.tail_cons])))); done); refine Cl.is (hbo _ _ _ _) ?_; conv => whnf))
    all_goals exact Exs.of ((a, c) : Option Addr × Nat) (by (try dsimp only); (refine FEnt.ent ?_; (repeat (first | exact FEnt.rfl | (refine FEnt.at 0 rfl ?_; (try simp only [List.eraseIdx_cons_zero, List.eraseIdx_cons_succ, List.eraseIdx_zero, List.tail_cons])) | (refine FEnt.at 3 rfl ?_; (try simp only [List.eraseIdx_cons_zero, List.eraseIdx_cons_succ, List.eraseIdx_zero, List.tail_cons])) | refine FEnt.drop ?_)); done)) ⟨hcap, had⟩ rfl
  · have er : recF rs t o p n false (askF xs M.length o p n).2 = rs ++ [(t, o, p, n, false, (askF xs M.length o p n).2)] := if_neg h0
    rw [er, if_neg h0, if_neg h0]
    rcases askF_no h0 with h1 | ⟨h1, ⟨q, h2, h3⟩, h4⟩
    · have hbo := fun v L => Try.dmaBurstNo be bm bt m c a rs nr nw xs t o p n false _ v L (by omega) had hx ⟨hp, hi⟩ h0 h1
      generalize (askF xs M.length o p n).2 = e at *
      generalize xs.map kvR = es at *
      refine con_of Try.tysOk Try.func26 rfl rfl ?_
      conv => whnf
      repeat' (first
        | ((with_reducible refine Br.ndt ?_ ?_); (focus (first | assumption | omega)); conv => whnf)
        | ((with_reducible refine Nd.mk ?_ ?_); (focus (first | omega | rfl | assumption | (simp; done))); conv => whnf)
        | ((with_reducible refine Nc.go' (fun _ => ?_)); conv => whnf)
        | (first | (refine Ld.at 1 rfl rfl ?_; conv => whnf) | (refine Ld.at 2 rfl rfl ?_; conv => whnf))
        | (refine St.at 0 rfl (by first | exact Nat.le_of_ble_eq_true rfl | (simp; done)) rfl ?_; conv => whnf)
        | (apply (Cl.pre [ptc be _ _, ptc bt _ _, mapH m _ _, own recE _ a c rs]); (focus ((repeat (first | exact FEnt.rfl | (refine FEnt.at 3 rfl ?_; (try simp only [List.eraseIdx_cons_zero, List.eraseIdx_cons_succ, List.eraseIdx_zero, List.tail_cons])))); done)); refine Cl.exs (hbo _ _) ?_; rintro ⟨a2, c2⟩ ⟨hc2, had2⟩; conv => whnf))
      all_goals exact Exs.of ((a2, c2) : Option Addr × Nat) (by (try dsimp only); (refine FEnt.ent ?_; (repeat (first | exact FEnt.rfl | (refine FEnt.at 0 rfl ?_; (try simp only [List.eraseIdx_cons_zero, List.eraseIdx_cons_succ, List.eraseIdx_zero, List.tail_cons])) | (refine FEnt.at 3 rfl ?_; (try simp only [List.eraseIdx_cons_zero, List.eraseIdx_cons_succ, List.eraseIdx_zero, List.tail_cons])) | refine FEnt.drop ?_)); done)) ⟨hc2, had2⟩ rfl
    · have hmq := mapF_ok hx (congrArg Prod.snd h2)
      rw [h2] at hmq
      have hbo := fun (b0 bn bo : Nat) L => Try.dmaBurstMem be bm bt m c a rs nr nw xs t o p n q false 6 42 [pV b0, pV bn, pV bo] (ptc b0 33 [pV be] :: ptc bn 3 [i64V n] :: ptc bo 9 [.string ⟨#[]⟩] :: Try.memH bm M :: L) (by omega) had hx ⟨hp, hi⟩ (by decide) h1 h2 (fun X Y Z W => Try.dmaRead1 be bo bn bm bt _ c a nr nw q n X Y Z W M L (by omega) ⟨by omega, by omega⟩ hi hmq.1 h3 b0)
      rw [h4]
      generalize xs.map kvR = es at *
      refine con_of Try.tysOk Try.func26 rfl rfl ?_
      conv => whnf
      repeat' (first
        | ((with_reducible refine Br.ndt ?_ ?_); (focus (first | assumption | omega)); conv => whnf)
        | ((with_reducible refine Nd.mk ?_ ?_); (focus (first | omega | rfl | assumption | (simp; done))); conv => whnf)
        | ((with_reducible refine Nc.go' (fun _ => ?_)); conv => whnf)
        | (first | (refine Ld.at 1 rfl rfl ?_; conv => whnf) | (refine Ld.at 2 rfl rfl ?_; conv => whnf))
        | (refine St.at 0 rfl (by first | exact Nat.le_of_ble_eq_true rfl | (simp; done)) rfl ?_; conv => whnf)
        | (apply (Cl.pre [ptc be _ _, ptc bt _ _, mapH m _ _, own recE _ a c rs, ptc _ 33 _, ptc _ 3 _, ptc _ 9 _, Try.memH bm M]); (focus ((repeat (first | exact FEnt.rfl | (refine FEnt.at 1 rfl ?_; (try simp only [List.eraseIdx_cons_zero, List.eraseIdx_cons_succ, List.eraseIdx_zero, List.tail_cons])) | (refine FEnt.at 2 rfl ?_; (try simp only [List.eraseIdx_cons_zero, List.eraseIdx_cons_succ, List.eraseIdx_zero, List.tail_cons])) | (refine FEnt.at 3 rfl ?_; (try simp only [List.eraseIdx_cons_zero, List.eraseIdx_cons_succ, List.eraseIdx_zero, List.tail_cons])))); done)); refine Cl.exs (hbo _ _ _ _) ?_; rintro ⟨a2, c2⟩ ⟨hc2, had2⟩; conv => whnf))
      all_goals exact Exs.of ((a2, c2) : Option Addr × Nat) (by (try dsimp only); (refine FEnt.ent ?_; (repeat (first | exact FEnt.rfl | (refine FEnt.at 0 rfl ?_; (try simp only [List.eraseIdx_cons_zero, List.eraseIdx_cons_succ, List.eraseIdx_zero, List.tail_cons])) | (refine FEnt.at 3 rfl ?_; (try simp only [List.eraseIdx_cons_zero, List.eraseIdx_cons_succ, List.eraseIdx_zero, List.tail_cons])) | refine FEnt.drop ?_)); done)) ⟨hc2, had2⟩ rfl
/-- a burst that writes, on both -/
theorem Try.dmaDoW (be bm bt m c : Nat) (a : Option Addr) (rs : List Rec) (nr nw : Nat → Int) (xs : List Rg) (ax : Option Addr) (cx : Nat) (t o p n : Int) (w : Bool) (s : ByteArray) (M B : List UInt8) (A : HP) (ab : Option Addr) (cb : Nat) (L : List HP)
    (hw : w = true) (hl : rs.length ≤ 1000) (had : Ad a rs.length) (hcap : rs.length ≤ c) (hxl : xs.length ≤ 8) (hx : rgOk xs xs.length) (hp : I64 p) (hn : I64 n) (hs : s.size ≤ 100000) (hM : M.length ≤ 20000) (hB : B.length = M.length) (hnw : ∀ i, 0 ≤ nw i ∧ nw i ≤ 1000000000) (hr : Rd rgE L ax xs) (hcb : (ints B).length ≤ cb) (hrd : Rd intE [A] ab (ints B)) :
    Con Try.prog 12 [pV be, .slice ax xs.length cx, .slice ab (ints B).length cb, bdV t o p n w s] (Try.engP be bm bt m c a rs nr nw xs ++ Try.memH bm M :: A :: L)
      (Exs (fun y : (Option Addr × Nat) × HP × Option Addr × Nat => .tuple #[.slice y.2.2.1 (ints (if (askF xs M.length o p s.size).2 = 0 then lay B (askF xs M.length o p s.size).1.toNat s.data.toList else B)).length y.2.2.2, i64V (askF xs M.length o p s.size).2, .bool true])
        (fun y => Try.engP be bm bt m y.1.2 y.1.1 (recF rs t o p s.size true (askF xs M.length o p s.size).2) nr (if (askF xs M.length o p s.size).2 = 0 then upd nw o.toNat (nw o.toNat + s.size) else nw) xs ++ Try.memH bm (if (askF xs M.length o p s.size).2 = 0 then lay M (askF xs M.length o p s.size).1.toNat s.data.toList else M) :: y.2.1 :: L)
        (fun y => ((recF rs t o p s.size true (askF xs M.length o p s.size).2).length ≤ y.1.2 ∧ Ad y.1.1 (recF rs t o p s.size true (askF xs M.length o p s.size).2).length) ∧ Bts A (if (askF xs M.length o p s.size).2 = 0 then lay B (askF xs M.length o p s.size).1.toNat s.data.toList else B) y.2)) := by
  subst hw
  have hsz := size_list s
  have hil := ints_len s.data.toList
  have hiB := ints_len B
  have hz : szF n true s = s.size := rfl
  have hak := fun L h => Try.refAsk ax ab cx cb xs (ints B).length t o p n true s L hxl hx (by omega) ⟨hp, hn⟩ (by omega) h
  have hwr := fun L => Try.dmaWrite be bm bt m c a rs nr nw xs t o p s M L hl had hcap hx hp hs hM hnw
  rw [hz, show askF xs (ints B).length o p s.size = askF xs M.length o p s.size from by rw [hiB, hB]] at hak
  simp only [Try.engP, List.cons_append, List.nil_append] at hwr ⊢
  by_cases h0 : (askF xs M.length o p s.size).2 = 0
  · obtain ⟨g1, g2, g3, g4, g5, g6⟩ := askF_ok hx h0
    rw [if_pos h0, if_pos h0, h0] at hwr
    rw [h0] at hak
    rw [if_pos h0, if_pos h0, if_pos h0, h0]
    generalize (askF xs M.length o p s.size).1 = q at *
    obtain ⟨k, rfl⟩ := Int.eq_ofNat_of_zero_le g3.1
    rw [Int.toNat_natCast] at *
    have hw : ∀ a' c' a c L, Rd intE L a (ints B) → Rd intE L a' (ints s.data.toList) → Con Try.prog 32 [.slice a (ints B).length c, i64V k, .slice a' (ints s.data.toList).length c'] L (New intE 3 (ints (lay B k s.data.toList)) L) := fun a' c' a c L h1 h2 =>
      Try.refWithB a a' c c' k k B s.data.toList _ L (by omega) rfl (by omega) h1 h2 (fun x hx => by obtain ⟨u, _, rfl⟩ := List.mem_map.1 hx; exact u8I u) (by rw [← ints_u8of, u8of_ints])
    generalize lay B k s.data.toList = B2 at *
    generalize lay M k s.data.toList = M2 at *
    generalize recF rs t o p s.size true 0 = rs2 at *
    generalize upd nw o.toNat (nw o.toNat + s.size) = nw2 at *
    generalize xs.map kvR = es at *
    refine con_of Try.tysOk Try.func12 rfl rfl ?_
    conv => whnf
    repeat' (first
      | (first | ((with_reducible refine Br.tt ?_); conv => whnf) | ((with_reducible refine Br.dt ?_ ?_); (focus (first | assumption | omega)); conv => whnf))
      | ((with_reducible refine Nd.mk ?_ ?_); (focus (first | omega | rfl | assumption | (simp; done))); conv => whnf)
      | ((with_reducible refine Nc.go' (fun _ => ?_)); conv => whnf)
      | (first | (refine Ld.at 0 rfl rfl ?_; conv => whnf) | (refine Ld.at 5 rfl rfl ?_; conv => whnf))
      | (refine LdN.at 0 rfl (by first | exact Nat.le_of_ble_eq_true rfl | (simp; done)) ?_; conv => whnf)
      | (first | ((with_reducible refine (?_ : Cl _ 31 _ _ _ _)); (refine Cl.is (hak _ (by ((repeat (first | assumption | apply Rd.cons)); done))) ?_); conv => whnf) | (apply (Cl.pre [ptc be _ _, ptc bt _ _, mapH m _ _, own recE _ a c rs, Try.memH bm M]); (focus ((repeat (first | exact FEnt.rfl | (refine FEnt.at 0 rfl ?_; (try simp only [List.eraseIdx_cons_zero, List.eraseIdx_cons_succ, List.eraseIdx_zero, List.tail_cons])) | (refine FEnt.at 1 rfl ?_; (try simp only [List.eraseIdx_cons_zero, List.eraseIdx_cons_succ, List.eraseIdx_zero, List.tail_cons])) | refine FEnt.drop ?_)); done)); refine Cl.exs (hwr _) ?_; rintro ⟨a2, c2⟩ ⟨hc2, had2⟩; conv => whnf) | ((with_reducible refine Cl.new (Try.refBytes _ _ (by omega)) (fun _ _ _ _ => ?_)); conv => whnf) | ((with_reducible refine (?_ : Cl _ 32 _ _ _ _)); (refine Cl.new (hw _ _ _ _ _ (by ((repeat (first | exact Rd.hd (by assumption) | apply Rd.cons)); done)) (by ((repeat ((refine Rd.own 0 rfl ?_); (assumption))); done))) (fun _ _ _ _ => ?_)); conv => whnf)))
    all_goals (rename_i a3 c3 hc3 had3; exact Exs.of (((a2, c2), star A (own intE 3 a3 c3 (ints B2)), a3, c3) : (Option Addr × Nat) × HP × Option Addr × Nat) (by (try dsimp only); (refine FEnt.ent ?_; (repeat (first | exact FEnt.rfl | (refine FEnt.at 0 rfl ?_; (try simp only [List.eraseIdx_cons_zero, List.eraseIdx_cons_succ, List.eraseIdx_zero, List.tail_cons])) | (refine FEnt.at 2 rfl ?_; (try simp only [List.eraseIdx_cons_zero, List.eraseIdx_cons_succ, List.eraseIdx_zero, List.tail_cons])) | (refine FEnt.at 3 rfl ?_; (try simp only [List.eraseIdx_cons_zero, List.eraseIdx_cons_succ, List.eraseIdx_zero, List.tail_cons])) | refine FEnt.star ?_ | refine FEnt.drop ?_)); done)) ⟨⟨hc2, had2⟩, Bts.mk ((Rd.own 0 rfl had3).ent ent_star2) ent_star1 hc3⟩ (by first | rfl | simp))
  · rw [if_neg h0, if_neg h0] at hwr
    rw [if_neg h0, if_neg h0, if_neg h0]
    generalize (askF xs M.length o p s.size).2 = e at *
    generalize (askF xs M.length o p s.size).1 = q at *
    generalize recF rs t o p s.size true e = rs2 at *
    generalize xs.map kvR = es at *
    refine con_of Try.tysOk Try.func12 rfl rfl ?_
    conv => whnf
    repeat' (first
      | (first | ((with_reducible refine Br.tt ?_); conv => whnf) | ((with_reducible refine Br.df ?_ ?_); (focus (first | assumption | omega)); conv => whnf))
      | ((with_reducible refine Nd.mk ?_ ?_); (focus (first | omega | rfl | assumption | (simp; done))); conv => whnf)
      | ((with_reducible refine Nc.go' (fun _ => ?_)); conv => whnf)
      | (refine Ld.at 0 rfl rfl ?_; conv => whnf)
      | (refine LdN.at 0 rfl (by first | exact Nat.le_of_ble_eq_true rfl | (simp; done)) ?_; conv => whnf)
      | (first | ((with_reducible refine (?_ : Cl _ 31 _ _ _ _)); (refine Cl.is (hak _ (by ((repeat (first | assumption | apply Rd.cons)); done))) ?_); conv => whnf) | (apply (Cl.pre [ptc be _ _, ptc bt _ _, mapH m _ _, own recE _ a c rs, Try.memH bm M]); (focus ((repeat (first | exact FEnt.rfl | (refine FEnt.at 1 rfl ?_; (try simp only [List.eraseIdx_cons_zero, List.eraseIdx_cons_succ, List.eraseIdx_zero, List.tail_cons])))); done)); refine Cl.exs (hwr _) ?_; rintro ⟨a2, c2⟩ ⟨hc2, had2⟩; conv => whnf)))
    all_goals exact Exs.of (((a2, c2), A, ab, cb) : (Option Addr × Nat) × HP × Option Addr × Nat) (by (try dsimp only); (refine FEnt.ent ?_; (repeat (first | exact FEnt.rfl | (refine FEnt.at 0 rfl ?_; (try simp only [List.eraseIdx_cons_zero, List.eraseIdx_cons_succ, List.eraseIdx_zero, List.tail_cons])) | (refine FEnt.at 1 rfl ?_; (try simp only [List.eraseIdx_cons_zero, List.eraseIdx_cons_succ, List.eraseIdx_zero, List.tail_cons])) | refine FEnt.drop ?_)); done)) ⟨⟨hc2, had2⟩, Bts.mk hrd Ent.rfl hcb⟩ (by first | rfl | simp)
/-- a burst that reads, on both -/
theorem Try.dmaDoR (be bm bt m c : Nat) (a : Option Addr) (rs : List Rec) (nr nw : Nat → Int) (xs : List Rg) (ax : Option Addr) (cx : Nat) (t o p n : Int) (w : Bool) (s : ByteArray) (M : List UInt8) (A : HP) (ab : Option Addr) (cb : Nat) (L : List HP)
    (hw : w = false) (hl : rs.length ≤ 1000) (had : Ad a rs.length) (hcap : rs.length ≤ c) (hxl : xs.length ≤ 8) (hx : rgOk xs xs.length) (hp : I64 p) (hn : I64 n) (hs : s.size ≤ 9223372036854775807) (hM : M.length ≤ 20000) (hnr : ∀ i, 0 ≤ nr i ∧ nr i ≤ 1000000000) (hr : Rd rgE L ax xs) (hcb : (ints M).length ≤ cb) (hrd : Rd intE [A] ab (ints M)) :
    Con Try.prog 12 [pV be, .slice ax xs.length cx, .slice ab (ints M).length cb, bdV t o p n w s] (Try.engP be bm bt m c a rs nr nw xs ++ Try.memH bm M :: A :: L)
      (Exs (fun y : Option Addr × Nat => .tuple #[.slice ab (ints M).length cb, i64V (askF xs M.length o p n).2, .bool true])
        (fun y => Try.engP be bm bt m y.2 y.1 (recF rs t o p n false (askF xs M.length o p n).2) (if (askF xs M.length o p n).2 = 0 then upd nr o.toNat (nr o.toNat + n) else nr) nw xs ++ Try.memH bm M :: A :: L)
        (fun y => (recF rs t o p n false (askF xs M.length o p n).2).length ≤ y.2 ∧ Ad y.1 (recF rs t o p n false (askF xs M.length o p n).2).length)) := by
  subst hw
  have hiM := ints_len M
  have hz : szF n false s = n := rfl
  have hak := fun L h => Try.refAsk ax ab cx cb xs (ints M).length t o p n false s L hxl hx (by omega) ⟨hp, hn⟩ (by omega) h
  have hrr := fun L => Try.dmaRead be bm bt m c a rs nr nw xs t o p n M L hl had hcap hx hp hn hM hnr
  rw [hz, show askF xs (ints M).length o p n = askF xs M.length o p n from by rw [hiM]] at hak
  simp only [Try.engP, List.cons_append, List.nil_append] at hrr ⊢
  by_cases h0 : (askF xs M.length o p n).2 = 0
  · obtain ⟨g1, g2, g3, g4, g5, g6⟩ := askF_ok hx h0
    rw [if_pos h0, if_pos h0, h0] at hrr
    rw [h0] at hak
    rw [if_pos h0, h0]
    generalize (askF xs M.length o p n).1 = q at *
    obtain ⟨k, rfl⟩ := Int.eq_ofNat_of_zero_le g3.1
    obtain ⟨j, rfl⟩ := Int.eq_ofNat_of_zero_le g4
    have htx := fun L h => Try.refTextB ab cb k j k j M L (by omega) rfl rfl (by omega) h
    have et : (⟨((M.take (k + j)).drop k).toArray⟩ : ByteArray) = txtF M k j := rfl
    rw [et] at htx
    generalize txtF M k j = S at *
    have hS : S = S := rfl
    generalize recF rs t o p j false 0 = rs2 at *
    generalize upd nr o.toNat (nr o.toNat + j) = nr2 at *
    generalize xs.map kvR = es at *
    refine con_of Try.tysOk Try.func12 rfl rfl ?_
    conv => whnf
    repeat' (first
      | (first | ((with_reducible refine Br.tt ?_); conv => whnf) | ((with_reducible refine Br.ff ?_); conv => whnf) | ((with_reducible refine Br.dt ?_ ?_); (focus (first | assumption | omega)); conv => whnf) | ((with_reducible refine Br.ndf ?_ ?_); (focus (first | assumption | omega)); conv => whnf))
      | ((with_reducible refine Nd.mk ?_ ?_); (focus (first | omega | rfl | assumption | (simp; done))); conv => whnf)
      | ((with_reducible refine Nc.go' (fun _ => ?_)); conv => whnf)
      | (first | (refine Ld.at 0 rfl rfl ?_; conv => whnf) | (refine Ld.at 5 rfl rfl ?_; conv => whnf))
      | (refine LdN.at 0 rfl (by first | exact Nat.le_of_ble_eq_true rfl | (simp; done)) ?_; conv => whnf)
      | (first | ((with_reducible refine (?_ : Cl _ 31 _ _ _ _)); (refine Cl.is (hak _ (by ((repeat (first | assumption | apply Rd.cons)); done))) ?_); conv => whnf) | (apply (Cl.pre [ptc be _ _, ptc bt _ _, mapH m _ _, own recE _ a c rs, Try.memH bm M]); (focus ((repeat (first | exact FEnt.rfl | (refine FEnt.at 0 rfl ?_; (try simp only [List.eraseIdx_cons_zero, List.eraseIdx_cons_succ, List.eraseIdx_zero, List.tail_cons])) | (refine FEnt.at 1 rfl ?_; (try simp only [List.eraseIdx_cons_zero, List.eraseIdx_cons_succ, List.eraseIdx_zero, List.tail_cons])) | refine FEnt.drop ?_)); done)); refine Cl.exs (hrr _) ?_; rintro ⟨a2, c2⟩ ⟨hc2, had2⟩; conv => whnf) | ((with_reducible refine (?_ : Cl _ 18 _ _ _ _)); (refine Cl.is (htx _ (by ((repeat (first | exact Rd.hd (by assumption) | apply Rd.cons)); done))) ?_); conv => whnf)))
    all_goals exact Exs.of ((a2, c2) : Option Addr × Nat) (by (try dsimp only); (refine FEnt.ent ?_; (repeat (first | exact FEnt.rfl | (refine FEnt.at 0 rfl ?_; (try simp only [List.eraseIdx_cons_zero, List.eraseIdx_cons_succ, List.eraseIdx_zero, List.tail_cons])) | (refine FEnt.at 1 rfl ?_; (try simp only [List.eraseIdx_cons_zero, List.eraseIdx_cons_succ, List.eraseIdx_zero, List.tail_cons])) | refine FEnt.drop ?_)); done)) ⟨hc2, had2⟩ (by first | rfl | simp)
  · rw [if_neg h0, if_neg h0] at hrr
    rw [if_neg h0]
    generalize (askF xs M.length o p n).2 = e at *
    generalize (askF xs M.length o p n).1 = q at *
    generalize recF rs t o p n false e = rs2 at *
    generalize xs.map kvR = es at *
    have hS : (⟨#[]⟩ : ByteArray) = ⟨#[]⟩ := rfl
    refine con_of Try.tysOk Try.func12 rfl rfl ?_
    conv => whnf
    repeat' (first
      | (first | ((with_reducible refine Br.tt ?_); conv => whnf) | ((with_reducible refine Br.ff ?_); conv => whnf) | ((with_reducible refine Br.dt ?_ ?_); (focus (first | assumption | omega)); conv => whnf) | ((with_reducible refine Br.ndt ?_ ?_); (focus (first | assumption | omega)); conv => whnf))
      | ((with_reducible refine Nd.mk ?_ ?_); (focus (first | omega | rfl | assumption | (simp; done))); conv => whnf)
      | ((with_reducible refine Nc.go' (fun _ => ?_)); conv => whnf)
      | (refine Ld.at 0 rfl rfl ?_; conv => whnf)
      | (refine LdN.at 0 rfl (by first | exact Nat.le_of_ble_eq_true rfl | (simp; done)) ?_; conv => whnf)
      | (first | ((with_reducible refine (?_ : Cl _ 31 _ _ _ _)); (refine Cl.is (hak _ (by ((repeat (first | assumption | apply Rd.cons)); done))) ?_); conv => whnf) | (apply (Cl.pre [ptc be _ _, ptc bt _ _, mapH m _ _, own recE _ a c rs, Try.memH bm M]); (focus ((repeat (first | exact FEnt.rfl | (refine FEnt.at 1 rfl ?_; (try simp only [List.eraseIdx_cons_zero, List.eraseIdx_cons_succ, List.eraseIdx_zero, List.tail_cons])))); done)); refine Cl.exs (hrr _) ?_; rintro ⟨a2, c2⟩ ⟨hc2, had2⟩; conv => whnf)))
    all_goals exact Exs.of ((a2, c2) : Option Addr × Nat) (by (try dsimp only); (refine FEnt.ent ?_; (repeat (first | exact FEnt.rfl | (refine FEnt.at 0 rfl ?_; (try simp only [List.eraseIdx_cons_zero, List.eraseIdx_cons_succ, List.eraseIdx_zero, List.tail_cons])) | (refine FEnt.at 1 rfl ?_; (try simp only [List.eraseIdx_cons_zero, List.eraseIdx_cons_succ, List.eraseIdx_zero, List.tail_cons])) | refine FEnt.drop ?_)); done)) ⟨hc2, had2⟩ (by first | rfl | simp)
end Go.Proofs
