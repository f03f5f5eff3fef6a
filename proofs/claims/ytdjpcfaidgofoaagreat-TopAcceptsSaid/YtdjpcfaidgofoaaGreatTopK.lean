/- The plan, made and asked: contracts. -/
import Derived.Test.YtdjpcfaidgofoaaGreatSlot
import Derived.Test.YtdjpcfaidgofoaaGreatSortI
set_option linter.all false
namespace Go.Proofs
open Go.Eng
set_option linter.unusedVariables false
set_option maxRecDepth 100000
set_option maxHeartbeats 1000000
theorem td4 {x : Int} (h : 0 ≤ x) : x.tdiv 4 = x / 4 := Int.tdiv_eq_ediv_of_nonneg h
theorem tm4 {x : Int} (h : 0 ≤ x) : x.tmod 4 = x % 4 := Int.tmod_eq_emod_of_nonneg h
/-- what the bus is at an offset of a slot -/
def stS (s : Slt) (o : Int) : Int × Int × Int := if (s.2.2 - s.2.1) / 4 ≤ (o - s.2.1) / 4 then (s.1, -1, 0) else (s.1, (o - s.2.1) / 4, (o - s.2.1) % 4)
abbrev inSl (s : Slt) (o : Int) : Prop := s.2.1 ≤ o ∧ o < s.2.2
def stOs (xs : List Slt) (o : Int) : Int × Int × Int := match xs.find? (fun s => decide (inSl s o)) with
  | none => (0, -1, 0)
  | some s => stS s o
def stF (n : Int) (xs : List Slt) (t : Int) : Int × Int × Int := if t < 0 then (0, -1, 0) else stOs xs (t % n)
theorem st_at {xs : List Slt} {o : Int} {k : Nat} (hk : k < xs.length) (h : inSl (xs.getD k slE.d) o) (hp : ∀ i, i < k → ¬ inSl (xs.getD i slE.d) o) : stOs xs o = stS (xs.getD k slE.d) o := by
  have e : xs.find? (fun s => decide (inSl s o)) = some (xs.getD k slE.d) := by
    induction xs generalizing k with
    | nil => simp at hk
    | cons x xs ih =>
      cases k with
      | zero => rw [List.find?_cons_of_pos (by simpa using h)]; simp
      | succ k =>
        have h0 : ¬ inSl x o := by simpa using hp 0 (by omega)
        rw [List.find?_cons_of_neg (by simpa using h0)]
        have := ih (k := k) (by simpa using hk) (by simpa using h) (fun i hi => by simpa using hp (i + 1) (by omega))
        rw [this]; simp
  unfold stOs
  rw [e]
theorem st_no {xs : List Slt} {o : Int} (hp : ∀ i, i < xs.length → ¬ inSl (xs.getD i slE.d) o) : stOs xs o = (0, -1, 0) := by
  have e : xs.find? (fun s => decide (inSl s o)) = none := List.find?_eq_none.2 fun r hr => by
    obtain ⟨i, hi, rfl⟩ := List.getElem_of_mem hr
    have := hp i hi
    simpa [List.getD, hi] using this
  unfold stOs
  rw [e]
abbrev stV3 (s : Int × Int × Int) : Value := .agg #[n64 s.1, n64 s.2.1, n64 s.2.2]
theorem Tryz.slAtNil (t : Int) (L : List HP) : Con Tryz.prog 202 [.pointer none, n64 t] L (Is (.agg #[n64 0, n64 (-1), n64 0]) L) := by
  refine con_of Tryz.tysOk Tryz.func202 rfl rfl ?_
  conv => whnf
  repeat' ((with_reducible refine Nc.go' (fun _ => ?_)); conv => whnf)
  refine Sc.plain Tryz.tysOk ?_
  conv => whnf
  repeat' (first
    | (first | ((with_reducible refine Br.tt ?_); conv => whnf) | ((with_reducible refine Br.nn ?_); conv => whnf))
    | ((with_reducible refine Nd.mk ?_ ?_); (focus (first | omega | rfl | assumption | (simp; done))); conv => whnf)
    | (refine LdN.at 0 rfl (by first | exact Nat.le_of_ble_eq_true rfl | (simp; done)) ?_; conv => whnf)
    | (refine St.at 0 rfl (by first | exact Nat.le_of_ble_eq_true rfl | (simp; done)) rfl ?_; conv => whnf))
  all_goals (refine Is.ent ?_ ?_; (focus (refine FEnt.ent ?_; (repeat (first | exact FEnt.rfl | refine FEnt.drop ?_)); done)); (exact Is.rfl))
theorem Tryz.slAt (b : Nat) (n t : Int) (a : Option Addr) (c : Nat) (xs : List Slt) (L : List HP) (hl : xs.length ≤ 1000) (hf : okF n) (h : slOk n xs xs.length) (ht : -9223372036854775808 ≤ t ∧ t ≤ 9223372036854775807) (had : Ad a xs.length) :
    Con Tryz.prog 202 [.pointer (some ⟨b, 0, none⟩), n64 t] (ptc b 264 [n64 n, .slice a xs.length c] :: own slE 44 a c xs :: L)
      (Is (.agg #[n64 (stF n xs t).1, n64 (stF n xs t).2.1, n64 (stF n xs t).2.2]) (ptc b 264 [n64 n, .slice a xs.length c] :: own slE 44 a c xs :: L)) := by
  unfold stF
  by_cases h0 : t < 0
  · rw [if_pos h0]
    refine con_of Tryz.tysOk Tryz.func202 rfl rfl ?_
    conv => whnf
    repeat' ((with_reducible refine Nc.go' (fun _ => ?_)); conv => whnf)
    refine Sc.plain Tryz.tysOk ?_
    conv => whnf
    repeat' (first
      | (first | ((with_reducible refine Br.ff ?_); conv => whnf) | ((with_reducible refine Br.sn ?_); conv => whnf) | ((with_reducible refine Br.dt ?_ ?_); (focus (first | assumption | omega)); conv => whnf))
      | ((with_reducible refine Nd.mk ?_ ?_); (focus (first | omega | rfl | assumption | (simp; done))); conv => whnf)
      | (refine LdN.at 0 rfl (by first | exact Nat.le_of_ble_eq_true rfl | (simp; done)) ?_; conv => whnf)
      | (refine St.at 0 rfl (by first | exact Nat.le_of_ble_eq_true rfl | (simp; done)) rfl ?_; conv => whnf))
    all_goals (refine Is.ent ?_ ?_; (focus (refine FEnt.ent ?_; (repeat (first | exact FEnt.rfl | (refine FEnt.at 1 rfl ?_; (try simp only [List.eraseIdx_cons_zero, List.eraseIdx_cons_succ, List.eraseIdx_zero, List.tail_cons])) | refine FEnt.drop ?_)); done)); (exact Is.rfl))
  · rw [if_neg h0]
    have hq := qr (n := t) (f := n) (by omega)
    have hfr := fun L => Tryz.clkFrame t n L (by omega) hf
    have ho : 0 ≤ t % n ∧ t % n < 4096 := by omega
    clear hq
    generalize t % n = o at *
    generalize t / n = q at *
    refine con_of Tryz.tysOk Tryz.func202 rfl rfl ?_
    conv => whnf
    repeat' ((with_reducible refine Nc.go' (fun _ => ?_)); conv => whnf)
    rename_i b4
    refine Sc.plain Tryz.tysOk ?_
    conv => whnf
    repeat' (first
      | (first | ((with_reducible refine Br.ff ?_); conv => whnf) | ((with_reducible refine Br.sn ?_); conv => whnf) | ((with_reducible refine Br.df ?_ ?_); (focus (first | assumption | omega)); conv => whnf))
      | ((with_reducible refine Nd.mk ?_ ?_); (focus (first | omega | rfl | assumption | (simp; done))); conv => whnf)
      | (refine Ld.at 1 rfl rfl ?_; conv => whnf)
      | ((with_reducible refine Cl.is (hfr _) ?_); conv => whnf))
    conv => whnf
    refine Lp.by Tryz.tysOk [31] (fun (k : Nat) => [.int .i64 k]) (fun k => ptc b4 328 [n64 0, n64 0, n64 0] :: ptc b 264 [n64 n, .slice a xs.length c] :: own slE 44 a c xs :: L) (fun k => k ≤ xs.length ∧ ∀ i, i < k → ¬ inSl (xs.getD i slE.d) o) (fun k => xs.length - k) (0) (by kernel_rfl) (by (exact Ent.rfl)) (⟨by omega, fun i h => by omega⟩) ?_
    rintro k ⟨h1, h2⟩
    conv => whnf
    repeat (intro _; conv => whnf)
    by_cases hk : k < xs.length
    · have hm := (h k hk).1
      by_cases hin : inSl (xs.getD k slE.d) o
      · have hhl : isS (xs.getD k slE.d).2.1 (xs.getD k slE.d).2.2 ∧ (xs.getD k slE.d).2.1 ≤ o ∧ o < (xs.getD k slE.d).2.2 := ⟨⟨hm.2.2.1, hm.2.2.2.1⟩, hin.1, hin.2⟩
        have e1 := td4 (x := o - (xs.getD k slE.d).2.1) (by omega)
        have e2 := td4 (x := (xs.getD k slE.d).2.2 - (xs.getD k slE.d).2.1) (by omega)
        have e3 := tm4 (x := o - (xs.getD k slE.d).2.1) (by omega)
        rw [st_at hk hin h2]
        unfold stS
        by_cases hq : ((xs.getD k slE.d).2.2 - (xs.getD k slE.d).2.1) / 4 ≤ (o - (xs.getD k slE.d).2.1) / 4
        · rw [if_pos hq]
          rw [← e1, ← e2] at hq
          have b1 : 0 ≤ (o - (xs.getD k slE.d).2.1).tdiv 4 ∧ (o - (xs.getD k slE.d).2.1).tdiv 4 ≤ 4096 := by rw [e1]; omega
          have b2 : 0 ≤ ((xs.getD k slE.d).2.2 - (xs.getD k slE.d).2.1).tdiv 4 ∧ ((xs.getD k slE.d).2.2 - (xs.getD k slE.d).2.1).tdiv 4 ≤ 4096 := by rw [e2]; omega
          conv => whnf
          repeat' (first
            | (first | ((with_reducible refine Br.nt ?_); conv => whnf) | ((with_reducible refine Br.dt ?_ ?_); (focus (first | assumption | omega)); conv => whnf))
            | ((with_reducible refine Ar.i64 ?_ ?_); (focus omega); conv => whnf)
            | ((with_reducible refine Nd.mk ?_ ?_); (focus (first | omega | rfl | assumption | (simp; done))); conv => whnf)
            | ((with_reducible refine Nc.go' (fun _ => ?_)); conv => whnf)
            | ((with_reducible refine Ix.ad ?_ ?_ ?_); (focus (assumption)); (focus (omega)); conv => whnf)
            | (refine Ld.at 0 rfl rfl ?_; conv => whnf)
            | (first | ((with_reducible apply LdN.rdk); (focus ((repeat ((refine Rd.own 2 rfl ?_); (assumption))); done)); (focus rfl); (focus rfl); (focus (omega)); conv => whnf) | (refine LdN.at 0 rfl (by first | exact Nat.le_of_ble_eq_true rfl | (simp; done)) ?_; conv => whnf) | (refine LdN.at 1 rfl (by first | exact Nat.le_of_ble_eq_true rfl | (simp; done)) ?_; conv => whnf))
            | (first | (refine St.at 0 rfl (by first | exact Nat.le_of_ble_eq_true rfl | (simp; done)) rfl ?_; conv => whnf) | (refine St.at 1 rfl (by first | exact Nat.le_of_ble_eq_true rfl | (simp; done)) rfl ?_; conv => whnf))
            | (first | ((with_reducible refine Cl.is (Tryz.slPlaces _ _ _ _) ?_); conv => whnf) | ((with_reducible refine Cl.is (Con.dt hhl (Tryz.spanHolds _ _ _ _)) ?_); conv => whnf)))
          all_goals (refine Is.ent ?_ ?_; (focus (refine FEnt.ent ?_; (repeat (first | exact FEnt.rfl | (refine FEnt.at 2 rfl ?_; (try simp only [List.eraseIdx_cons_zero, List.eraseIdx_cons_succ, List.eraseIdx_zero, List.tail_cons])) | refine FEnt.drop ?_)); done)); (exact Is.rfl))
        · rw [if_neg hq, ← e1, ← e3]
          rw [← e1, ← e2] at hq
          have b1 : 0 ≤ (o - (xs.getD k slE.d).2.1).tdiv 4 ∧ (o - (xs.getD k slE.d).2.1).tdiv 4 ≤ 4096 := by rw [e1]; omega
          have b2 : 0 ≤ ((xs.getD k slE.d).2.2 - (xs.getD k slE.d).2.1).tdiv 4 ∧ ((xs.getD k slE.d).2.2 - (xs.getD k slE.d).2.1).tdiv 4 ≤ 4096 := by rw [e2]; omega
          conv => whnf
          repeat' (first
            | (first | ((with_reducible refine Br.nt ?_); conv => whnf) | ((with_reducible refine Br.dt ?_ ?_); (focus (first | assumption | omega)); conv => whnf) | ((with_reducible refine Br.df ?_ ?_); (focus (first | assumption | omega)); conv => whnf))
            | ((with_reducible refine Ar.i64 ?_ ?_); (focus omega); conv => whnf)
            | ((with_reducible refine Nd.mk ?_ ?_); (focus (first | omega | rfl | assumption | (simp; done))); conv => whnf)
            | ((with_reducible refine Nc.go' (fun _ => ?_)); conv => whnf)
            | ((with_reducible refine Ix.ad ?_ ?_ ?_); (focus (assumption)); (focus (omega)); conv => whnf)
            | (refine Ld.at 0 rfl rfl ?_; conv => whnf)
            | (first | ((with_reducible apply LdN.rdk); (focus ((repeat ((refine Rd.own 2 rfl ?_); (assumption))); done)); (focus rfl); (focus rfl); (focus (omega)); conv => whnf) | (refine LdN.at 0 rfl (by first | exact Nat.le_of_ble_eq_true rfl | (simp; done)) ?_; conv => whnf) | (refine LdN.at 1 rfl (by first | exact Nat.le_of_ble_eq_true rfl | (simp; done)) ?_; conv => whnf))
            | (first | (refine St.at 0 rfl (by first | exact Nat.le_of_ble_eq_true rfl | (simp; done)) rfl ?_; conv => whnf) | (refine St.at 1 rfl (by first | exact Nat.le_of_ble_eq_true rfl | (simp; done)) rfl ?_; conv => whnf))
            | (first | ((with_reducible refine Cl.is (Tryz.slPlaces _ _ _ _) ?_); conv => whnf) | ((with_reducible refine Cl.is (Con.dt hhl (Tryz.spanHolds _ _ _ _)) ?_); conv => whnf)))
          all_goals (refine Is.ent ?_ ?_; (focus (refine FEnt.ent ?_; (repeat (first | exact FEnt.rfl | (refine FEnt.at 2 rfl ?_; (try simp only [List.eraseIdx_cons_zero, List.eraseIdx_cons_succ, List.eraseIdx_zero, List.tail_cons])) | refine FEnt.drop ?_)); done)); (exact Is.rfl))
      · have hhl : ¬ (isS (xs.getD k slE.d).2.1 (xs.getD k slE.d).2.2 ∧ (xs.getD k slE.d).2.1 ≤ o ∧ o < (xs.getD k slE.d).2.2) := fun h => hin h.2
        conv => whnf
        repeat' (first
          | (first | ((with_reducible refine Br.nf ?_); conv => whnf) | ((with_reducible refine Br.dt ?_ ?_); (focus (first | assumption | omega)); conv => whnf))
          | ((with_reducible refine Ar.i64 ?_ ?_); (focus omega); conv => whnf)
          | ((with_reducible refine Nd.mk ?_ ?_); (focus (first | omega | rfl | assumption | (simp; done))); conv => whnf)
          | ((with_reducible refine Nc.go' (fun _ => ?_)); conv => whnf)
          | ((with_reducible refine Ix.ad ?_ ?_ ?_); (focus (assumption)); (focus (omega)); conv => whnf)
          | (first | ((with_reducible apply LdN.rdk); (focus ((repeat ((refine Rd.own 2 rfl ?_); (assumption))); done)); (focus rfl); (focus rfl); (focus (omega)); conv => whnf) | (refine LdN.at 0 rfl (by first | exact Nat.le_of_ble_eq_true rfl | (simp; done)) ?_; conv => whnf))
          | (refine St.at 0 rfl (by first | exact Nat.le_of_ble_eq_true rfl | (simp; done)) rfl ?_; conv => whnf)
          | (first | ((with_reducible refine Cl.is (Tryz.slPlaces _ _ _ _) ?_); conv => whnf) | ((with_reducible refine Cl.is (Con.df hhl (Tryz.spanHolds _ _ _ _)) ?_); conv => whnf)))
        refine ⟨k + 1, by kernel_rfl, by (refine FEnt.ent ?_; (repeat (first | exact FEnt.rfl | (refine FEnt.at 1 rfl ?_; (try simp only [List.eraseIdx_cons_zero, List.eraseIdx_cons_succ, List.eraseIdx_zero, List.tail_cons])) | refine FEnt.drop ?_)); done), ⟨by omega, lt_step h2 hin⟩, by omega⟩
    · rw [st_no (fun i hi => h2 i (by omega))]
      conv => whnf
      repeat' (first
        | ((with_reducible refine Br.df ?_ ?_); (focus (first | assumption | omega)); conv => whnf)
        | ((with_reducible refine Nd.mk ?_ ?_); (focus (first | omega | rfl | assumption | (simp; done))); conv => whnf)
        | (refine LdN.at 0 rfl (by first | exact Nat.le_of_ble_eq_true rfl | (simp; done)) ?_; conv => whnf)
        | (refine St.at 0 rfl (by first | exact Nat.le_of_ble_eq_true rfl | (simp; done)) rfl ?_; conv => whnf))
      all_goals (refine Is.ent ?_ ?_; (focus (refine FEnt.ent ?_; (repeat (first | exact FEnt.rfl | (refine FEnt.at 1 rfl ?_; (try simp only [List.eraseIdx_cons_zero, List.eraseIdx_cons_succ, List.eraseIdx_zero, List.tail_cons])) | refine FEnt.drop ?_)); done)); (exact Is.rfl))
end Go.Proofs
set_option linter.all false
namespace Go.Proofs
open Go.Eng
open Classical
set_option linter.unusedVariables false
set_option maxRecDepth 100000
set_option maxHeartbeats 4000000
/-- windows, one of them anew -/
def updW (W : Nat → Sp) (n : Nat) (w : Sp) : Nat → Sp := fun i => if i = n then w else W i
def wndF (ws : List Slt) : Nat → Sp := ws.foldl (fun W w => updW W w.1.toNat (w.2.1, w.2.2)) (fun _ => (0, 0))
theorem wndF_succ {ws : List Slt} {k : Nat} (hk : k < ws.length) : wndF (ws.take (k + 1)) = updW (wndF (ws.take k)) (ws.getD k slE.d).1.toNat ((ws.getD k slE.d).2.1, (ws.getD k slE.d).2.2) := by
  unfold wndF
  rw [List.take_add_one, List.foldl_append, List.getElem?_eq_getElem hk]
  have e : ws.getD k slE.d = ws[k] := by simp [List.getD, hk]
  rw [e]
  rfl
/-- a plan's cells -/
abbrev plnC (F : Int) (a : Option Addr) (n c : Nat) (W : Nat → Sp) (s g : Value) : List Value := [n64 F, .slice none 0 0, .slice none 0 0, .slice a n c, n64 (W 0).1, n64 (W 0).2, n64 (W 1).1, n64 (W 1).2, n64 (W 2).1, n64 (W 2).2, n64 (W 3).1, n64 (W 3).2, n64 (W 4).1, n64 (W 4).2, n64 (W 5).1, n64 (W 5).2, n64 (W 6).1, n64 (W 6).2, n64 (W 7).1, n64 (W 7).2, n64 (W 8).1, n64 (W 8).2, s, g]
theorem plnC_set (F : Int) (a : Option Addr) (m c : Nat) (W : Nat → Sp) (s g : Value) (x y : Int) {n : Nat} (h : n < 9) : ovr (plnC F a m c W s g) (4 + n * 2) [n64 x, n64 y] = plnC F a m c (updW W n (x, y)) s g := by
  match n, h with
  | 0, _ => rfl | 1, _ => rfl | 2, _ => rfl | 3, _ => rfl | 4, _ => rfl | 5, _ => rfl | 6, _ => rfl | 7, _ => rfl | 8, _ => rfl
theorem St.win {P : Program} {L : List HP} {b : Nat} {t : TypeId} {F : Int} {a : Option Addr} {m c : Nat} {W : Nat → Sp} {s g : Value} {x y n : Int} {K : List HP → Prop} (i : Nat) (hi : L[i]? = some (ptc b t (plnC F a m c W s g))) (hb : 0 ≤ n ∧ n ≤ 8)
    (k : lsetK L i (ptc b t (plnC F a m c (updW W n.toNat (x, y)) s g)) K) : St P L ⟨b, 4 + n.toNat * 2, none⟩ [n64 x, n64 y] K := by
  refine St.at i hi ?_ rfl ?_
  · show 4 + n.toNat * 2 + 2 ≤ 24
    omega
  · rw [plnC_set F a m c W s g x y (by omega)]
    exact k
/-- where a plan's things stand: its clients, its slots' table, its slots, its regions' table -/
abbrev Pz := (Option Addr × Nat) × Nat × (Option Addr × Nat) × Nat
structure PzOk (C : Cfg) (z : Pz) : Prop where
  c : C.xs.length ≤ z.1.2
  ca : Ad z.1.1 C.xs.length
  s : C.ss.length ≤ z.2.2.1.2
  sa : Ad z.2.2.1.1 C.ss.length
abbrev Tryz.plnP (C : Cfg) (b : Nat) (z : Pz) : List HP := [ptc b 156 (plnC C.F z.1.1 C.xs.length z.1.2 (wndF C.ws) (pV z.2.1) (pV z.2.2.2)), own clE 46 z.1.1 z.1.2 C.xs,
  ptc z.2.1 264 [n64 C.F, .slice z.2.2.1.1 C.ss.length z.2.2.1.2], own slE 44 z.2.2.1.1 z.2.2.1.2 C.ss]
/-- a plan -/
def Tryz.plnH (C : Cfg) (b : Nat) : HP := fun e h => ∃ z : Pz, PzOk C z ∧ Parts e (Tryz.plnP C b z) h
theorem Tryz.plnOpen {P : Program} {f : FuncId} {args : List Value} {C : Cfg} {b : Nat} {L : List HP} {R : Value → List HP → Prop} {X : List PanicEntry → List HP → Prop}
    (k : ∀ z, PzOk C z → Con P f args (ptc b 156 (plnC C.F z.1.1 C.xs.length z.1.2 (wndF C.ws) (pV z.2.1) (pV z.2.2.2)) :: own clE 46 z.1.1 z.1.2 C.xs ::
      ptc z.2.1 264 [n64 C.F, .slice z.2.2.1.1 C.ss.length z.2.2.1.2] :: own slE 44 z.2.2.1.1 z.2.2.1.2 C.ss :: L) R X) : Con P f args (Tryz.plnH C b :: L) R X := by
  refine ⟨(k ((some ⟨0, 0, none⟩, C.xs.length), 0, (some ⟨0, 0, none⟩, C.ss.length), 0) ⟨Nat.le_refl _, fun _ => rfl, Nat.le_refl _, fun _ => rfl⟩).ent, fun w s => ?_⟩
  obtain ⟨c, ⟨h1, h2, rfl, ⟨z, hz, hp⟩, hl⟩, ok⟩ := s
  exact (k z hz).run w ⟨_, (parts_append (L := [_, _, _, _])).2 ⟨h1, h2, rfl, hp, hl⟩, ok⟩
theorem Tryz.plnShut {C : Cfg} {b sb g : Nat} {n m c d : Nat} {a s : Option Addr} {L M : List HP}
    (h : FEnt L (ptc b 156 (plnC C.F a n c (wndF C.ws) (pV sb) (pV g)) :: own clE 46 a c C.xs :: ptc sb 264 [n64 C.F, .slice s m d] :: own slE 44 s d C.ss :: M))
    (hn : n = C.xs.length) (hm : m = C.ss.length) (h1 : C.xs.length ≤ c) (h2 : Ad a C.xs.length) (h3 : C.ss.length ≤ d) (h4 : Ad s C.ss.length) : FEnt L (Tryz.plnH C b :: M) := by
  subst hn hm
  exact FEnt.shut (N := [_, _, _, _]) (fun e c' hc => ⟨((a, c), sb, (s, d), g), ⟨h1, h2, h3, h4⟩, hc⟩) h
theorem Tryz.plnNew (C : Cfg) (L : List HP) (hB : CfB C) (hR : Right C) (hw : Rd slE L C.wa C.ws) (hs : Rd slE L C.sa C.ss) (hc : Rd clE L C.ca C.xs) :
    Con Tryz.prog 24 [cfV C] L (Exs (fun y : Nat => .tuple #[pV y, n64 0]) (fun y => Tryz.plnH C y :: L) (fun _ => True)) := by
  have hf := hR.f
  have hl : C.xs.length ≤ 8 := by omega
  have hck := fun L hw hs hc => Con.dt hR (Tryz.confCheck C L hB hw hs hc)
  have hrg := fun L hr => Tryz.confRegions C L hl hr
  have hrn := fun a c L hr => Tryz.regNew a c (rowsF (rgnF C) C.xs.length) L (by rw [rowsF_len]; exact hl) (right_regions hR) hr
  have hsl := fun L hr => Tryz.slNewOk C.F C.sa C.sc C.ss L (by omega) ⟨by omega, by omega⟩ (right_slots hR) hr
  have hwn : ∀ i, i < C.ws.length → 0 ≤ (C.ws.getD i slE.d).1 ∧ (C.ws.getD i slE.d).1 ≤ 8 := fun i hi => by
    have h4 : goodW C (cW C i) := Classical.byContradiction fun hn => hR.r4 i hi hn
    have := h4.1
    simp only [cW] at this
    omega
  refine con_of Tryz.tysOk Tryz.func24 rfl rfl ?_
  conv => whnf
  repeat' (first
    | ((with_reducible refine Br.nt ?_); conv => whnf)
    | ((with_reducible refine Nd.mk ?_ ?_); (focus (first | omega | rfl | assumption | (simp; done))); conv => whnf)
    | ((with_reducible refine Nc.go' (fun _ => ?_)); conv => whnf)
    | (first | (refine Ld.at 0 rfl rfl ?_; conv => whnf) | (refine Ld.at 1 rfl rfl ?_; conv => whnf) | (refine Ld.at 2 rfl rfl ?_; conv => whnf))
    | (refine LdN.at 0 rfl (by first | exact Nat.le_of_ble_eq_true rfl | (simp; done)) ?_; conv => whnf)
    | (refine St.at 1 rfl (by first | exact Nat.le_of_ble_eq_true rfl | (simp; done)) rfl ?_; conv => whnf)
    | ((with_reducible refine Dr.by (id := 4) Tryz.tysOk rfl [(0, 0), (1, 0), (2, 0), (3, 0), (4, 0), (6, 0), (5, 1), (7, 1), (8, 3), (9, 0), (10, 0), (11, 0), (12, 3)] ?_ ?_); (focus kernel_rfl); conv => whnf)
    | ((with_reducible refine (?_ : Cl _ 61 _ _ _ _)); (refine Cl.is (hck _ (by ((repeat (first | assumption | apply Rd.cons)); done)) (by ((repeat (first | assumption | apply Rd.cons)); done)) (by ((repeat (first | assumption | apply Rd.cons)); done))) ?_); conv => whnf)
    | ((with_reducible refine (?_ : Sm _ (Builtin.append_ _ _ _) _ _)); ((with_reducible_and_instances apply (Sm.appNil (E := clE) (et := 46) Tryz.tysOk)); ((focus rfl); (focus ((repeat (first | assumption | apply Rd.cons)); done))); (focus rfl); (focus rfl); (focus rfl); (focus rfl); (focus rfl); (focus (omega)); (intro _ _ _ _); conv => whnf)))
  rename_i b1 bp ca cc hcc hcad
  conv => whnf
  refine Lp.by Tryz.tysOk [31] (fun (k : Nat) => [.int .i64 k]) (fun k => ptc bp 156 (plnC C.F ca C.xs.length cc (wndF (C.ws.take k)) (.pointer none) (.pointer none)) :: own clE 46 ca cc C.xs :: ptc b1 28 (cfC C) :: L) (fun k => k ≤ C.ws.length) (fun k => C.ws.length - k) (0) (by kernel_rfl) (by (refine FEnt.ent ?_; (repeat (first | exact FEnt.rfl | (refine FEnt.at 1 rfl ?_; (try simp only [List.eraseIdx_cons_zero, List.eraseIdx_cons_succ, List.eraseIdx_zero, List.tail_cons])))); done)) ((by omega)) ?_
  rintro k h1
  conv => whnf
  repeat (intro _; conv => whnf)
  by_cases hk : k < C.ws.length
  · have hwk := hwn k hk
    have hsu := wndF_succ hk
    generalize wndF (C.ws.take k) = W at *
    conv => whnf
    repeat' (first
      | ((with_reducible refine Br.dt ?_ ?_); (focus (first | assumption | omega)); conv => whnf)
      | ((with_reducible refine Ar.i64 ?_ ?_); (focus omega); conv => whnf)
      | ((with_reducible refine Nd.mk ?_ ?_); (focus (first | omega | rfl | assumption | (simp; done))); conv => whnf)
      | ((with_reducible refine Nc.go' (fun _ => ?_)); conv => whnf)
      | ((refine Ix.arr (by omega) ?_); conv => whnf)
      | ((with_reducible refine Ix.ad ?_ ?_ ?_); (focus (exact Rd.ad (by assumption))); (focus (omega)); conv => whnf)
      | (refine Ld.at 0 rfl rfl ?_; conv => whnf)
      | ((with_reducible apply LdN.rdk); (focus ((repeat (first | assumption | apply Rd.cons)); done)); (focus rfl); (focus rfl); (focus (omega)); conv => whnf)
      | (first | ((first | refine St.win 0 rfl hwk ?_ | refine St.win 1 rfl hwk ?_ | refine St.win 2 rfl hwk ?_); conv => whnf) | (refine St.at 0 rfl (by first | exact Nat.le_of_ble_eq_true rfl | (simp; done)) rfl ?_; conv => whnf))
      | ((with_reducible refine Dr.by (id := 8) Tryz.tysOk rfl [(0, 0), (1, 0), (3, 0), (5, 0), (8, 0), (9, 0), (2, 1), (4, 1), (6, 1), (7, 0), (10, 0), (11, 3)] ?_ ?_); (focus kernel_rfl); conv => whnf))
    all_goals try (exfalso; omega)
    all_goals exact ⟨k + 1, by kernel_rfl, by (try dsimp only); rw [hsu]; (refine FEnt.ent ?_; (repeat (first | exact FEnt.rfl | (refine FEnt.at 1 rfl ?_; (try simp only [List.eraseIdx_cons_zero, List.eraseIdx_cons_succ, List.eraseIdx_zero, List.tail_cons])) | refine FEnt.drop ?_)); done), by omega, by omega⟩
  · have e : k = C.ws.length := by omega
    subst e
    have ew : wndF (C.ws.take C.ws.length) = wndF C.ws := by rw [List.take_length]
    rw [ew]
    conv => whnf
    repeat' (first
      | (first | ((with_reducible refine Br.df ?_ ?_); (focus (first | assumption | omega)); conv => whnf) | ((with_reducible refine Br.ndf ?_ ?_); (focus (first | assumption | omega)); conv => whnf))
      | ((with_reducible refine Nd.mk ?_ ?_); (focus (first | omega | rfl | assumption | (simp; done))); conv => whnf)
      | (refine Ld.at 2 rfl rfl ?_; conv => whnf)
      | (refine LdN.at 4 rfl (by first | exact Nat.le_of_ble_eq_true rfl | (simp; done)) ?_; conv => whnf)
      | (first | (refine St.at 2 rfl (by first | exact Nat.le_of_ble_eq_true rfl | (simp; done)) rfl ?_; conv => whnf) | (refine St.at 5 rfl (by first | exact Nat.le_of_ble_eq_true rfl | (simp; done)) rfl ?_; conv => whnf))
      | (first | ((with_reducible refine (?_ : Cl _ 68 _ _ _ _)); (refine Cl.exs (hsl _ (by ((repeat (first | assumption | apply Rd.cons)); done))) ?_; rintro ⟨bs, sa, sc⟩ ⟨hs1, hs2⟩); conv => whnf) | ((with_reducible refine (?_ : Cl _ 66 _ _ _ _)); (refine Cl.new (hrg _ (by ((repeat (first | assumption | apply Rd.cons)); done))) (fun ga gc hgc hgad => ?_)); conv => whnf) | ((with_reducible refine (?_ : Cl _ 65 _ _ _ _)); (refine Cl.exs (hrn _ _ _ (by ((repeat ((refine Rd.own 0 rfl ?_); (assumption))); done))) ?_; rintro ⟨bt, mt⟩ _); conv => whnf)))
    all_goals try (exfalso; omega)
    all_goals exact Exs.of bp (by (try dsimp only); (refine FEnt.ent ?_; (repeat (first | exact FEnt.rfl | (refine FEnt.at 3 rfl ?_; (try simp only [List.eraseIdx_cons_zero, List.eraseIdx_cons_succ, List.eraseIdx_zero, List.tail_cons])) | (refine FEnt.at 5 rfl ?_; (try simp only [List.eraseIdx_cons_zero, List.eraseIdx_cons_succ, List.eraseIdx_zero, List.tail_cons])) | (apply Tryz.plnShut) | refine FEnt.drop ?_ | rfl | assumption)); done)) trivial rfl
theorem Tryz.plnOwnersB (b : Nat) (F : Int) (a : Option Addr) (n c : Nat) (W : Nat → Sp) (s g : Value) (L : List HP) : Con Tryz.prog 30 [pV b] (ptc b 156 (plnC F a n c W s g) :: L) (Is (n64 n) (ptc b 156 (plnC F a n c W s g) :: L)) := by
  refine con_of Tryz.tysOk Tryz.func30 rfl rfl ?_
  conv => whnf
  repeat' (first
    | ((with_reducible refine Br.sn ?_); conv => whnf)
    | (refine Ld.at 0 rfl rfl ?_; conv => whnf))
  all_goals (refine Is.ent ?_ ?_; (focus (exact Ent.rfl)); (exact Is.rfl))
theorem Tryz.plnFrameB (b : Nat) (F : Int) (a : Option Addr) (n c : Nat) (W : Nat → Sp) (s g : Value) (L : List HP) : Con Tryz.prog 72 [pV b] (ptc b 156 (plnC F a n c W s g) :: L) (Is (n64 F) (ptc b 156 (plnC F a n c W s g) :: L)) := by
  refine con_of Tryz.tysOk Tryz.func72 rfl rfl ?_
  conv => whnf
  repeat' (first
    | ((with_reducible refine Br.sn ?_); conv => whnf)
    | (refine Ld.at 0 rfl rfl ?_; conv => whnf))
  all_goals (refine Is.ent ?_ ?_; (focus (exact Ent.rfl)); (exact Is.rfl))
theorem Tryz.plnOwners (C : Cfg) (b : Nat) (L : List HP) : Con Tryz.prog 30 [pV b] (Tryz.plnH C b :: L) (Is (n64 C.xs.length) (Tryz.plnH C b :: L)) := by
  refine Tryz.plnOpen fun ⟨⟨ca, cc⟩, bs, ⟨sa, sc⟩, bg⟩ ⟨g1, g2, g3, g4⟩ => ?_
  dsimp only at g1 g2 g3 g4 ⊢
  refine con_of Tryz.tysOk Tryz.func30 rfl rfl ?_
  conv => whnf
  repeat' (first
    | ((with_reducible refine Br.sn ?_); conv => whnf)
    | (refine Ld.at 0 rfl rfl ?_; conv => whnf))
  all_goals (refine Is.ent ?_ ?_; (focus (refine FEnt.ent ?_; (repeat (first | exact FEnt.rfl | (apply Tryz.plnShut) | rfl | assumption)); done)); (exact Is.rfl))
theorem Tryz.plnFrame (C : Cfg) (b : Nat) (L : List HP) : Con Tryz.prog 72 [pV b] (Tryz.plnH C b :: L) (Is (n64 C.F) (Tryz.plnH C b :: L)) := by
  refine Tryz.plnOpen fun ⟨⟨ca, cc⟩, bs, ⟨sa, sc⟩, bg⟩ ⟨g1, g2, g3, g4⟩ => ?_
  dsimp only at g1 g2 g3 g4 ⊢
  refine con_of Tryz.tysOk Tryz.func72 rfl rfl ?_
  conv => whnf
  repeat' (first
    | ((with_reducible refine Br.sn ?_); conv => whnf)
    | (refine Ld.at 0 rfl rfl ?_; conv => whnf))
  all_goals (refine Is.ent ?_ ?_; (focus (refine FEnt.ent ?_; (repeat (first | exact FEnt.rfl | (apply Tryz.plnShut) | rfl | assumption)); done)); (exact Is.rfl))
theorem Tryz.plnClient (C : Cfg) (b k : Nat) (o : Int) (L : List HP) (ho : o = (k : Int) + 1) (hk : k < C.xs.length) (hl : C.xs.length ≤ 8) : Con Tryz.prog 69 [pV b, n64 o] (Tryz.plnH C b :: L) (Is (.tuple #[clV (C.xs.getD k clE.d), n64 0]) (Tryz.plnH C b :: L)) := by
  subst ho
  have e : (((k : Int) + 1 - 1).toNat) = k := by omega
  refine Tryz.plnOpen fun ⟨⟨ca, cc⟩, bs, ⟨sa, sc⟩, bg⟩ ⟨g1, g2, g3, g4⟩ => ?_
  dsimp only at g1 g2 g3 g4 ⊢
  have e2 : C.xs.getD k clE.d = C.xs.getD (((k : Int) + 1 - 1).toNat) clE.d := by rw [e]
  rw [e2]
  refine con_of Tryz.tysOk Tryz.func69 rfl rfl ?_
  conv => whnf
  repeat' (first
    | (first | ((with_reducible refine Br.ff ?_); conv => whnf) | ((with_reducible refine Br.df ?_ ?_); (focus (first | assumption | omega)); conv => whnf))
    | ((with_reducible refine Ar.i64 ?_ ?_); (focus omega); conv => whnf)
    | ((with_reducible refine Nd.mk ?_ ?_); (focus (first | omega | rfl | assumption | (simp; done))); conv => whnf)
    | ((with_reducible refine Nc.go' (fun _ => ?_)); conv => whnf)
    | ((with_reducible refine Ix.ad ?_ ?_ ?_); (focus (assumption)); (focus (omega)); conv => whnf)
    | (refine Ld.at 1 rfl rfl ?_; conv => whnf)
    | (first | ((apply LdN.rd); (focus ((repeat ((refine Rd.own 2 rfl ?_); (assumption))); done)); (focus rfl); (focus rfl); (focus (omega)); conv => whnf) | (refine LdN.at 0 rfl (by first | exact Nat.le_of_ble_eq_true rfl | (simp; done)) ?_; conv => whnf))
    | (refine St.at 0 rfl (by first | exact Nat.le_of_ble_eq_true rfl | (simp; done)) rfl ?_; conv => whnf)
    | ((refine Cl.isAt 1 rfl (Tryz.plnOwnersB b _ _ _ _ _ _ _ _) ?_); conv => whnf))
  all_goals (refine Is.ent ?_ ?_; (focus (refine FEnt.ent ?_; (repeat (first | exact FEnt.rfl | (refine FEnt.at 1 rfl ?_; (try simp only [List.eraseIdx_cons_zero, List.eraseIdx_cons_succ, List.eraseIdx_zero, List.tail_cons])) | (apply Tryz.plnShut) | refine FEnt.drop ?_ | rfl | assumption)); done)); (exact Is.rfl))
end Go.Proofs
