/- The table of regions, and the document's rows: contracts. -/
import Derived.Test.YtdjpcfaidgofoaaGreatEngMap
import Derived.Test.YtdjpcfaidgofoaaGreatSpanI
import Derived.Test.YtdjpcfaidgofoaaGreatRefMem
set_option linter.all false
namespace Go.Proofs
open Go.Eng
set_option linter.unusedVariables false
set_option maxRecDepth 100000
set_option maxHeartbeats 1000000
/-- a region: its owner, its first place, its size -/
abbrev Rg := Int × Int × Int
def rgE : Enc Rg := ⟨3, fun r => [i64V r.1, i64V r.2.1, i64V r.2.2], (0, 0, 0), fun _ => rfl, by omega, fun _ => rfl⟩
abbrev rgV (o b n : Int) : Value := .agg #[i64V o, i64V b, i64V n]
abbrev rgB (r : Rg) : Prop := I64 r.1 ∧ I64 r.2.1 ∧ I64 r.2.2
abbrev mayR (o b n : Int) : Prop := 1 ≤ o ∧ o ≤ 8 ∧ 128 ≤ b ∧ b < 16384 ∧ 1 ≤ n ∧ n ≤ 16384 - b
/-- its places -/
def plS (r : Rg) : Sp := (r.2.1, r.2.1 + r.2.2)
abbrev kvR (r : Rg) : Value × Value := (i64V r.1, rgV r.1 r.2.1 r.2.2)
theorem Tryz.regMay (o b n : Int) (L : List HP) (hb : I64 o ∧ I64 b ∧ I64 n) : Con Tryz.prog 126 [rgV o b n] L (Is (.bool (decide (mayR o b n))) L) := by
  refine con_of Tryz.tysOk Tryz.func126 rfl rfl ?_
  conv => whnf
  repeat' (first
    | (first | ((with_reducible refine Br.tt ?_); conv => whnf) | ((with_reducible refine Br.ff ?_); conv => whnf))
    | ((with_reducible refine Ar.i64 ?_ ?_); (focus omega); conv => whnf)
    | ((with_reducible refine Nc.go' (fun _ => ?_)); conv => whnf)
    | (refine Ld.at 0 rfl rfl ?_; conv => whnf)
    | ((with_reducible refine Br.ds (fun _ => ?_) (fun _ => ?_) ) <;> (conv => whnf)))
  all_goals (refine Is.ent ?_ ?_; (focus (refine FEnt.ent ?_; (repeat (first | exact FEnt.rfl | refine FEnt.drop ?_)); done)); (first | exact Is.ff (by omega) | (refine Is.dec ?_; omega)))
theorem Tryz.regPlaces (o b n : Int) (L : List HP) (h : mayR o b n) : Con Tryz.prog 127 [rgV o b n] L (Is (spV b (b + n)) L) := by
  refine con_of Tryz.tysOk Tryz.func127 rfl rfl ?_
  conv => whnf
  repeat' (first
    | ((with_reducible refine Ar.i64 ?_ ?_); (focus omega); conv => whnf)
    | ((with_reducible refine Nd.mk ?_ ?_); (focus (first | omega | rfl | assumption | (simp; done))); conv => whnf)
    | ((with_reducible refine Nc.go' (fun _ => ?_)); conv => whnf)
    | (refine Ld.at 1 rfl rfl ?_; conv => whnf)
    | (refine LdN.at 0 rfl (by first | exact Nat.le_of_ble_eq_true rfl | (simp; done)) ?_; conv => whnf)
    | (refine St.at 0 rfl (by first | exact Nat.le_of_ble_eq_true rfl | (simp; done)) rfl ?_; conv => whnf))
  all_goals (refine Is.ent ?_ ?_; (focus (refine FEnt.ent ?_; (repeat (first | exact FEnt.rfl | refine FEnt.drop ?_)); done)); (exact Is.rfl))
/-- rows that are right, up to the k'th one -/
def rgOk (xs : List Rg) (k : Nat) : Prop := ∀ i, i < k → mayR (xs.getD i rgE.d).1 (xs.getD i rgE.d).2.1 (xs.getD i rgE.d).2.2 ∧ ∀ j, j < i → (xs.getD j rgE.d).1 ≠ (xs.getD i rgE.d).1 ∧ ¬ meetP (plS (xs.getD j rgE.d)) (plS (xs.getD i rgE.d))
/-- which row is an owner's -/
def fndF (xs : List Rg) (o : Int) : Rg := (xs.find? fun r => decide (r.1 = o)).getD (0, 0, 0)
theorem fnd_at {xs : List Rg} {k : Nat} {o : Int} (hk : k < xs.length) (he : (xs.getD k rgE.d).1 = o) (hp : ∀ i, i < k → (xs.getD i rgE.d).1 ≠ o) : fndF xs o = xs.getD k rgE.d := by
  unfold fndF
  induction xs generalizing k with
  | nil => simp at hk
  | cons x xs ih =>
    cases k with
    | zero =>
      have he : x.1 = o := by simpa using he
      simp [List.find?, he]
    | succ k =>
      have h0 : x.1 ≠ o := by simpa using hp 0 (by omega)
      rw [List.find?_cons_of_neg (by simpa using h0)]
      have := ih (k := k) (by simpa using hk) (by simpa using he) (fun i hi => by simpa using hp (i + 1) (by omega))
      rw [this]; simp
theorem fnd_no {xs : List Rg} {o : Int} (hp : ∀ i, i < xs.length → (xs.getD i rgE.d).1 ≠ o) : fndF xs o = (0, 0, 0) := by
  unfold fndF
  rw [List.find?_eq_none.2 (fun r hr => by
    obtain ⟨i, hi, rfl⟩ := List.getElem_of_mem hr
    have := hp i hi
    simpa [List.getD, hi] using this)]
  rfl
theorem fnd_cases (xs : List Rg) (o : Int) : (∃ k, k < xs.length ∧ (xs.getD k rgE.d).1 = o ∧ fndF xs o = xs.getD k rgE.d) ∨ ((∀ i, i < xs.length → (xs.getD i rgE.d).1 ≠ o) ∧ fndF xs o = (0, 0, 0)) := by
  by_cases h : ∃ k, k < xs.length ∧ (xs.getD k rgE.d).1 = o
  · obtain ⟨m, hm, hmin⟩ := min_of h
    exact .inl ⟨m, hm.1, hm.2, fnd_at hm.1 hm.2 fun i hi he => by have := hmin i ⟨by omega, he⟩; omega⟩
  · have h' : ∀ i, i < xs.length → (xs.getD i rgE.d).1 ≠ o := fun i hi he => h ⟨i, hi, he⟩
    exact .inr ⟨h', fnd_no h'⟩
/-- an address's place; or why there is none -/
def mapF (xs : List Rg) (o at_ n : Int) : Int × Int :=
  if (fndF xs o).1 = 0 then (0, 7) else if n < 0 then (0, 2) else if at_ < 0 ∨ (fndF xs o).2.2 < at_ ∨ (fndF xs o).2.2 - at_ < n then (0, 6) else ((fndF xs o).2.1 + at_, 0)
theorem fnd_may {xs : List Rg} (h : rgOk xs xs.length) (o : Int) : mayR (fndF xs o).1 (fndF xs o).2.1 (fndF xs o).2.2 ∨ fndF xs o = (0, 0, 0) := by
  rcases fnd_cases xs o with ⟨k, hk, _, e⟩ | ⟨_, e⟩
  · rw [e]; exact .inl (h k hk).1
  · exact .inr e
/-! the table -/
abbrev tabP (b m : Nat) (xs : List Rg) : List HP := [ptc b 251 [.map (some m)], mapH m (.int .i64) (xs.map kvR)]
theorem kv_at {xs : List Rg} {k : Nat} (h : k < xs.length) : (xs.map kvR)[k]? = some (i64V (xs.getD k rgE.d).1, rgV (xs.getD k rgE.d).1 (xs.getD k rgE.d).2.1 (xs.getD k rgE.d).2.2) := by
  rw [List.getElem?_map, List.getElem?_eq_getElem h]
  simp [List.getD, h]
theorem kv_no {xs : List Rg} {o : Int} (h : ∀ i, i < xs.length → (xs.getD i rgE.d).1 ≠ o) : ∀ p ∈ xs.map kvR, p.1 ≠ i64V o := by
  intro p hp
  obtain ⟨r, hr, rfl⟩ := List.mem_map.1 hp
  obtain ⟨i, hi, rfl⟩ := List.getElem_of_mem hr
  have := h i hi
  intro he
  simp only [Value.int.injEq, true_and] at he
  exact this (by simpa [List.getD, hi] using he)
theorem Tryz.regFind (b m : Nat) (xs : List Rg) (o : Int) (L : List HP) (h : rgOk xs xs.length) :
    Con Tryz.prog 281 [pV b, i64V o] (ptc b 251 [.map (some m)] :: mapH m (.int .i64) (xs.map kvR) :: L)
      (Is (.tuple #[rgV (fndF xs o).1 (fndF xs o).2.1 (fndF xs o).2.2, i64V (if (fndF xs o).1 = 0 then 7 else 0)]) (ptc b 251 [.map (some m)] :: mapH m (.int .i64) (xs.map kvR) :: L)) := by
  rcases fnd_cases xs o with ⟨k, hk, ho, e⟩ | ⟨hno, e⟩
  · subst ho
    have hm := (h k hk).1
    rw [e, if_neg (by omega)]
    have hj := kv_at hk
    generalize xs.map kvR = es at *
    generalize xs.getD k rgE.d = r at *
    obtain ⟨r1, r2, r3⟩ := r
    refine con_of Tryz.tysOk Tryz.func281 rfl rfl ?_
    conv => whnf
    repeat' (first
      | (first | ((with_reducible refine Br.tt ?_); conv => whnf) | ((with_reducible refine Br.nsn ?_); conv => whnf))
      | ((with_reducible refine Nd.mk ?_ ?_); (focus (first | omega | rfl | assumption | (simp; done))); conv => whnf)
      | ((with_reducible refine Nc.go' (fun _ => ?_)); conv => whnf)
      | (refine Ld.at 1 rfl rfl ?_; conv => whnf)
      | (first | (refine LdN.at 0 rfl (by first | exact Nat.le_of_ble_eq_true rfl | (simp; done)) ?_; conv => whnf) | (refine LdN.at 1 rfl (by first | exact Nat.le_of_ble_eq_true rfl | (simp; done)) ?_; conv => whnf))
      | (first | (refine St.at 0 rfl (by first | exact Nat.le_of_ble_eq_true rfl | (simp; done)) rfl ?_; conv => whnf) | (refine St.at 1 rfl (by first | exact Nat.le_of_ble_eq_true rfl | (simp; done)) rfl ?_; conv => whnf))
      | ((with_reducible refine (?_ : Sm _ (Instr.lookup _ _ _ _) _ _)); (refine Sm.lkYes Tryz.tysOk 2 rfl rfl rfl rfl rfl (by first | exact rfl | exact trivial) _ (hj) ?_; conv => whnf)))
    all_goals (refine Is.ent ?_ ?_; (focus (refine FEnt.ent ?_; (repeat (first | exact FEnt.rfl | (refine FEnt.at 2 rfl ?_; (try simp only [List.eraseIdx_cons_zero, List.eraseIdx_cons_succ, List.eraseIdx_zero, List.tail_cons])) | refine FEnt.drop ?_)); done)); (exact Is.rfl))
  · rw [e, if_pos rfl]
    have hj := kv_no hno
    generalize xs.map kvR = es at *
    refine con_of Tryz.tysOk Tryz.func281 rfl rfl ?_
    conv => whnf
    repeat' (first
      | (first | ((with_reducible refine Br.ff ?_); conv => whnf) | ((with_reducible refine Br.nsn ?_); conv => whnf))
      | ((with_reducible refine Nd.mk ?_ ?_); (focus (first | omega | rfl | assumption | (simp; done))); conv => whnf)
      | ((with_reducible refine Nc.go' (fun _ => ?_)); conv => whnf)
      | (refine Ld.at 1 rfl rfl ?_; conv => whnf)
      | (refine LdN.at 1 rfl (by first | exact Nat.le_of_ble_eq_true rfl | (simp; done)) ?_; conv => whnf)
      | (first | (refine St.at 0 rfl (by first | exact Nat.le_of_ble_eq_true rfl | (simp; done)) rfl ?_; conv => whnf) | (refine St.at 1 rfl (by first | exact Nat.le_of_ble_eq_true rfl | (simp; done)) rfl ?_; conv => whnf))
      | ((with_reducible refine (?_ : Sm _ (Instr.lookup _ _ _ _) _ _)); (refine Sm.lkNo Tryz.tysOk 2 rfl rfl rfl rfl rfl rfl (by first | exact rfl | exact trivial) (hj) ?_; conv => whnf)))
    all_goals (refine Is.ent ?_ ?_; (focus (refine FEnt.ent ?_; (repeat (first | exact FEnt.rfl | (refine FEnt.at 2 rfl ?_; (try simp only [List.eraseIdx_cons_zero, List.eraseIdx_cons_succ, List.eraseIdx_zero, List.tail_cons])) | refine FEnt.drop ?_)); done)); (exact Is.rfl))
theorem Tryz.regMap (b m : Nat) (xs : List Rg) (o at_ n : Int) (L : List HP) (h : rgOk xs xs.length) (hb : I64 at_ ∧ I64 n) :
    Con Tryz.prog 270 [pV b, i64V o, i64V at_, i64V n] (ptc b 251 [.map (some m)] :: mapH m (.int .i64) (xs.map kvR) :: L)
      (Is (.tuple #[i64V (mapF xs o at_ n).1, i64V (mapF xs o at_ n).2]) (ptc b 251 [.map (some m)] :: mapH m (.int .i64) (xs.map kvR) :: L)) := by
  have hm := fnd_may h o
  have hf := fun L => Tryz.regFind b m xs o L h
  unfold mapF
  generalize fndF xs o = f at *
  generalize xs.map kvR = es at *
  obtain ⟨f1, f2, f3⟩ := f
  dsimp only at *
  have hf3 : 0 ≤ f3 ∧ f3 ≤ 16384 ∧ 0 ≤ f2 ∧ f2 ≤ 16384 := by
    rcases hm with hm | hm
    · omega
    · simp only [Prod.mk.injEq] at hm; omega
  clear hm
  by_cases h0 : f1 = 0
  · rw [if_pos h0] at hf
    rw [if_pos h0]
    refine con_of Tryz.tysOk Tryz.func270 rfl rfl ?_
    conv => whnf
    repeat' (first
      | ((with_reducible refine Br.ndt ?_ ?_); (focus (first | assumption | omega)); conv => whnf)
      | ((with_reducible refine Nd.mk ?_ ?_); (focus (first | omega | rfl | assumption | (simp; done))); conv => whnf)
      | ((with_reducible refine Nc.go' (fun _ => ?_)); conv => whnf)
      | (refine St.at 0 rfl (by first | exact Nat.le_of_ble_eq_true rfl | (simp; done)) rfl ?_; conv => whnf)
      | ((refine Cl.isAt2 0 0 rfl rfl (hf _) ?_); conv => whnf))
    all_goals (refine Is.ent ?_ ?_; (focus (refine FEnt.ent ?_; (repeat (first | exact FEnt.rfl | (refine FEnt.at 1 rfl ?_; (try simp only [List.eraseIdx_cons_zero, List.eraseIdx_cons_succ, List.eraseIdx_zero, List.tail_cons])) | refine FEnt.drop ?_)); done)); (exact Is.rfl))
  · rw [if_neg h0] at hf
    rw [if_neg h0]
    by_cases h1 : n < 0
    · rw [if_pos h1]
      refine con_of Tryz.tysOk Tryz.func270 rfl rfl ?_
      conv => whnf
      repeat' (first
        | (first | ((with_reducible refine Br.dt ?_ ?_); (focus (first | assumption | omega)); conv => whnf) | ((with_reducible refine Br.ndf ?_ ?_); (focus (first | assumption | omega)); conv => whnf))
        | ((with_reducible refine Nd.mk ?_ ?_); (focus (first | omega | rfl | assumption | (simp; done))); conv => whnf)
        | ((with_reducible refine Nc.go' (fun _ => ?_)); conv => whnf)
        | (refine St.at 0 rfl (by first | exact Nat.le_of_ble_eq_true rfl | (simp; done)) rfl ?_; conv => whnf)
        | ((refine Cl.isAt2 0 0 rfl rfl (hf _) ?_); conv => whnf))
      all_goals (refine Is.ent ?_ ?_; (focus (refine FEnt.ent ?_; (repeat (first | exact FEnt.rfl | (refine FEnt.at 1 rfl ?_; (try simp only [List.eraseIdx_cons_zero, List.eraseIdx_cons_succ, List.eraseIdx_zero, List.tail_cons])) | refine FEnt.drop ?_)); done)); (exact Is.rfl))
    · rw [if_neg h1]
      by_cases h2 : at_ < 0 ∨ f3 < at_ ∨ f3 - at_ < n
      · rw [if_pos h2]
        refine con_of Tryz.tysOk Tryz.func270 rfl rfl ?_
        conv => whnf
        repeat' (first
          | (first | ((with_reducible refine Br.tt ?_); conv => whnf) | ((with_reducible refine Br.ff ?_); conv => whnf) | ((with_reducible refine Br.dt ?_ ?_); (focus (first | assumption | omega)); conv => whnf) | ((with_reducible refine Br.df ?_ ?_); (focus (first | assumption | omega)); conv => whnf) | ((with_reducible refine Br.ndf ?_ ?_); (focus (first | assumption | omega)); conv => whnf))
          | ((with_reducible refine Ar.i64 ?_ ?_); (focus omega); conv => whnf)
          | ((with_reducible refine Nd.mk ?_ ?_); (focus (first | omega | rfl | assumption | (simp; done))); conv => whnf)
          | ((with_reducible refine Nc.go' (fun _ => ?_)); conv => whnf)
          | (refine Ld.at 0 rfl rfl ?_; conv => whnf)
          | (refine St.at 0 rfl (by first | exact Nat.le_of_ble_eq_true rfl | (simp; done)) rfl ?_; conv => whnf)
          | ((refine Cl.isAt2 0 0 rfl rfl (hf _) ?_); conv => whnf)
          | ((with_reducible refine Br.ds (fun _ => ?_) (fun _ => ?_) ) <;> (conv => whnf)))
        all_goals first | (refine Is.ent ?_ ?_; (focus (refine FEnt.ent ?_; (repeat (first | exact FEnt.rfl | (refine FEnt.at 1 rfl ?_; (try simp only [List.eraseIdx_cons_zero, List.eraseIdx_cons_succ, List.eraseIdx_zero, List.tail_cons])) | refine FEnt.drop ?_)); done)); (exact Is.rfl)) | (exfalso; omega)
      · rw [if_neg h2]
        refine con_of Tryz.tysOk Tryz.func270 rfl rfl ?_
        conv => whnf
        repeat' (first
          | (first | ((with_reducible refine Br.ff ?_); conv => whnf) | ((with_reducible refine Br.df ?_ ?_); (focus (first | assumption | omega)); conv => whnf) | ((with_reducible refine Br.ndf ?_ ?_); (focus (first | assumption | omega)); conv => whnf))
          | ((with_reducible refine Ar.i64 ?_ ?_); (focus omega); conv => whnf)
          | ((with_reducible refine Nd.mk ?_ ?_); (focus (first | omega | rfl | assumption | (simp; done))); conv => whnf)
          | ((with_reducible refine Nc.go' (fun _ => ?_)); conv => whnf)
          | (refine Ld.at 0 rfl rfl ?_; conv => whnf)
          | (refine St.at 0 rfl (by first | exact Nat.le_of_ble_eq_true rfl | (simp; done)) rfl ?_; conv => whnf)
          | ((refine Cl.isAt2 0 0 rfl rfl (hf _) ?_); conv => whnf))
        all_goals first | (refine Is.ent ?_ ?_; (focus (refine FEnt.ent ?_; (repeat (first | exact FEnt.rfl | (refine FEnt.at 1 rfl ?_; (try simp only [List.eraseIdx_cons_zero, List.eraseIdx_cons_succ, List.eraseIdx_zero, List.tail_cons])) | refine FEnt.drop ?_)); done)); (exact Is.rfl)) | (exfalso; omega)
/-- rows that are right meet nowhere -/
theorem apart_of {xs : List Rg} {k : Nat} (h : rgOk xs k) (hk : k ≤ xs.length) : apartS ((xs.take k).map plS) := by
  have hl : ((xs.take k).map plS).length = k := by rw [List.length_map, List.length_take]; omega
  have hg : ∀ i, i < k → ((xs.take k).map plS).getD i spE.d = plS (xs.getD i rgE.d) := fun i hi => by
    simp [List.getD, List.getElem?_take, hi, show i < xs.length by omega]
  constructor
  · rw [firstF_none]
    · decide
    · intro m hm j hj
      rw [hg m (by omega), hg j (by omega)]
      exact ((h m (by omega)).2 j hj).2
  · refine (all_iff spE.d).2 fun i hi => ?_
    rw [hg i (by omega)]
    have := (h i (by omega)).1
    show isS _ _
    simp only [plS]
    omega
theorem take_map_snoc {α β : Type} {xs : List α} {d : α} {k : Nat} (f : α → β) (h : k < xs.length) : (xs.take (k + 1)).map f = (xs.take k).map f ++ [f (xs.getD k d)] := by
  have e : xs[k]? = some (xs.getD k d) := by simp [List.getD, h]
  rw [List.take_add_one, e, List.map_append]
  rfl
/-- a new table, of rows that are right -/
theorem Tryz.regNew (a : Option Addr) (c : Nat) (xs : List Rg) (L : List HP) (hl : xs.length ≤ 8) (h : rgOk xs xs.length) (hr : Rd rgE L a xs) :
    Con Tryz.prog 65 [.slice a xs.length c] L (Exs (fun y : Nat × Nat => .tuple #[pV y.1, i64V 0]) (fun y => ptc y.1 251 [.map (some y.2)] :: mapH y.2 (.int .i64) (xs.map kvR) :: L) (fun _ => True)) := by
  refine con_of Tryz.tysOk Tryz.func65 rfl rfl ?_
  conv => whnf
  repeat' (first
    | ((with_reducible refine Nc.go' (fun _ => ?_)); conv => whnf)
    | ((with_reducible refine Nw.map (.int .i64) (fun _ => ?_)); conv => whnf))
  rename_i bm bt
  conv => whnf
  refine Lp.by4 Tryz.tysOk [15, 5] (fun (k : Nat) (ys : List Sp) (es : List (Value × Value)) (x : Option Addr × Nat) => [.int .i64 k, .slice x.1 ys.length x.2]) (fun k ys es x => ptc bt 251 [.map (some bm)] :: mapH bm (.int .i64) es :: own spE 114 x.1 x.2 ys :: L) (fun k ys es x => k ≤ xs.length ∧ ys = (xs.take k).map plS ∧ es = (xs.take k).map kvR ∧ ys.length ≤ x.2 ∧ Ad x.1 ys.length) (fun k ys es x => xs.length - k) (0) (([] : List Sp)) (([] : List (Value × Value))) (((none, 0) : Option Addr × Nat)) (by kernel_rfl) (by (refine FEnt.ent ?_; (repeat (first | exact FEnt.rfl | (refine FEnt.at 0 rfl ?_; (try simp only [List.eraseIdx_cons_zero, List.eraseIdx_cons_succ, List.eraseIdx_zero, List.tail_cons])) | refine FEnt.nil ?_)); done)) (⟨by omega, rfl, rfl, Nat.le_refl _, fun h => (h rfl).elim⟩) ?_
  rintro k ys es ⟨a2, c2⟩ ⟨h1, h2, h3, h4, h5⟩
  conv => whnf
  repeat (intro _; conv => whnf)
  dsimp only at h4 h5
  by_cases hk : k < xs.length
  · have hm := (h k hk).1
    have hyl : ys.length = k := by rw [h2, List.length_map, List.length_take]; omega
    have hno : ∀ p ∈ es, p.1 ≠ i64V (xs.getD k rgE.d).1 := by
      rw [h3]
      refine kv_no fun i hi => ?_
      have hi' : i < k := by rw [List.length_take] at hi; omega
      rw [getD_take hi']
      exact ((h k hk).2 i hi').1
    have hys := take_map_snoc (d := rgE.d) plS hk
    have hes := take_map_snoc (d := rgE.d) kvR hk
    have hap : apartS (ys ++ [plS (xs.getD k rgE.d)]) := by rw [h2, ← hys]; exact apart_of (fun i hi => h i (by omega)) hk
    rw [← h2] at hys
    rw [← h3] at hes
    have hrk : xs.getD k rgE.d = xs.getD k rgE.d := rfl
    conv => whnf
    repeat' (first
      | (first | ((with_reducible refine Br.ff ?_); conv => whnf) | ((with_reducible refine Br.nt ?_); conv => whnf) | ((with_reducible refine Br.dt ?_ ?_); (focus (first | assumption | omega)); conv => whnf))
      | ((with_reducible refine Ar.i64 ?_ ?_); (focus omega); conv => whnf)
      | ((with_reducible refine Nd.mk ?_ ?_); (focus (first | omega | rfl | assumption | (simp; done))); conv => whnf)
      | ((with_reducible refine Nc.go' (fun _ => ?_)); conv => whnf)
      | ((with_reducible refine Ix.ad ?_ ?_ ?_); (focus (exact Rd.ad (by assumption))); (focus (omega)); conv => whnf)
      | (first | (refine Ld.at 0 rfl rfl ?_; conv => whnf) | (refine Ld.at 1 rfl rfl ?_; conv => whnf) | (refine Ld.at 3 rfl rfl ?_; conv => whnf) | (refine Ld.at 4 rfl rfl ?_; conv => whnf))
      | (first | ((with_reducible apply LdN.rdk); (focus ((repeat (first | assumption | apply Rd.cons)); done)); (focus rfl); (focus rfl); (focus (omega)); conv => whnf) | (refine LdN.at 0 rfl (by first | exact Nat.le_of_ble_eq_true rfl | (simp; done)) ?_; conv => whnf) | (refine LdN.at 1 rfl (by first | exact Nat.le_of_ble_eq_true rfl | (simp; done)) ?_; conv => whnf) | (refine LdN.at 3 rfl (by first | exact Nat.le_of_ble_eq_true rfl | (simp; done)) ?_; conv => whnf))
      | (refine St.at 0 rfl (by first | exact Nat.le_of_ble_eq_true rfl | (simp; done)) rfl ?_; conv => whnf)
      | ((with_reducible refine Dr.by (id := 14) Tryz.tysOk rfl [(0, 0), (1, 0), (2, 0), (4, 0), (3, 1), (5, 1), (6, 1), (7, 3)] ?_ ?_); (focus kernel_rfl); conv => whnf)
      | ((with_reducible refine Dr.by (id := 8) Tryz.tysOk rfl [(0, 0), (1, 0), (2, 0), (4, 0), (3, 1), (5, 1), (6, 1), (7, 0), (8, 0), (9, 0), (10, 2), (11, 3), (12, 0)] ?_ ?_); (focus kernel_rfl); conv => whnf)
      | ((with_reducible refine (?_ : SR _ (Instr.lookup _ _ _ _) _ _)); (refine SR.lkNo Tryz.tysOk 2 rfl rfl rfl rfl rfl rfl (by first | exact rfl | exact trivial) (hno) ?_; conv => whnf))
      | ((with_reducible refine (?_ : Sm _ (Instr.mapUpdate _ _ _ _ >>= _) _ _)); (refine Sm.putNew Tryz.tysOk 5 rfl rfl rfl rfl rfl (by first | exact rfl | exact trivial) (hno) ?_; conv => whnf))
      | (first | ((with_reducible refine Cl.is (Con.dt hm (Tryz.regMay _ _ _ _ ⟨by omega, by omega, by omega⟩)) ?_); conv => whnf) | ((with_reducible refine Cl.is (Tryz.regPlaces _ _ _ _ hm) ?_); conv => whnf) | ((with_reducible refine (?_ : Cl _ 128 _ _ _ _)); (refine Cl.is (Con.dt hap (Tryz.spanApart _ _ _ _ (by ((simp only [List.length_append, List.length_cons, List.length_nil]); omega)) (by assumption) (by ((repeat ((refine Rd.own 0 rfl ?_); (assumption))); done)))) ?_); conv => whnf))
      | ((refine Sm.appAt (E := spE) (et := 114) Tryz.tysOk 5 rfl rfl (Rd.ptc 0 rfl [((xs.getD k rgE.d).2.1, (xs.getD k rgE.d).2.1 + (xs.getD k rgE.d).2.2)] rfl) rfl rfl rfl rfl rfl rfl (by rw [hyl]; show k + 1 ≤ 34359738368; omega) (fun _ _ _ _ => ?_)); conv => whnf))
    all_goals (rename_i a3 c3 hc3 had3; exact ⟨k + 1, ys ++ [plS (xs.getD k rgE.d)], es ++ [kvR (xs.getD k rgE.d)], (a3, c3), by kernel_rfl, by (refine FEnt.ent ?_; (repeat (first | exact FEnt.rfl | (refine FEnt.at 0 rfl ?_; (try simp only [List.eraseIdx_cons_zero, List.eraseIdx_cons_succ, List.eraseIdx_zero, List.tail_cons])) | (refine FEnt.at 4 rfl ?_; (try simp only [List.eraseIdx_cons_zero, List.eraseIdx_cons_succ, List.eraseIdx_zero, List.tail_cons])) | refine FEnt.drop ?_)); done), ⟨by omega, hys.symm, hes.symm, hc3, had3⟩, by omega⟩)
  · have e : k = xs.length := by omega
    subst e
    rw [List.take_length] at h3
    subst h3
    conv => whnf
    repeat' ((with_reducible refine Br.df ?_ ?_); (focus (first | assumption | omega)); conv => whnf)
    all_goals exact Exs.of ((bt, bm) : Nat × Nat) (by (try dsimp only); (refine FEnt.ent ?_; (repeat (first | exact FEnt.rfl | (refine FEnt.at 0 rfl ?_; (try simp only [List.eraseIdx_cons_zero, List.eraseIdx_cons_succ, List.eraseIdx_zero, List.tail_cons])) | refine FEnt.drop ?_)); done)) trivial rfl
end Go.Proofs
