/- The operations' meaning is the model's. -/
import Derived.Test.YtdjpcfaidgofoaaGreatEngOps
import Derived.Laws.Strings
import Derived.Laws.StructEq
import Derived.ChangeKeysEq
set_option linter.all false
namespace Go.Eng
variable {P : Program} {τ : Tys}

theorem step_val {o : Oper} {l : Env} {L : List HP} {K : Value → List HP → Prop} {X : List PanicEntry → List HP → Prop} (v : Value)
    (h : ∀ w, (execOp (evl l) o).run P w = .ok (.value v) w) (k : K v L) : Step P o l L K X := by
  intro w s; rw [h]; exact ⟨L, s, k⟩

/-- what is reckoned without looking at memory; or a run of the model's own -/
def Val (P : Program) (o : Oper) (l : Env) (K : Value → Prop) (F : Sem Value → Prop) : Prop :=
  (∃ v, (∀ w, (execOp (evl l) o).run P w = .ok (.value v) w) ∧ K v) ∨
  (∃ s : Sem Value, (∀ w, (execOp (evl l) o).run P w = (s.run P w).andThen fun v w => .ok (.value v) w) ∧ F s)
theorem Val.mk {o : Oper} {l : Env} {K : Value → Prop} {F : Sem Value → Prop} (v : Value) (h : ∀ w, (execOp (evl l) o).run P w = .ok (.value v) w) (k : K v) : Val P o l K F := .inl ⟨v, h, k⟩
theorem Val.sem {o : Oper} {l : Env} {K : Value → Prop} {F : Sem Value → Prop} {s : Sem Value} (h : ∀ w, (execOp (evl l) o).run P w = (s.run P w).andThen fun v w => .ok (.value v) w) (k : F s) : Val P o l K F := .inr ⟨s, h, k⟩
theorem step_sem {o : Oper} {l : Env} {L : List HP} {K : Value → List HP → Prop} {X : List PanicEntry → List HP → Prop} {s : Sem Value}
    (h : ∀ w, (execOp (evl l) o).run P w = (s.run P w).andThen fun v w => .ok (.value v) w)
    (k : Sm P s L K) : Step P o l L K X := by
  intro w hs
  obtain ⟨v, w', L', hr, s', hk⟩ := k.go w hs
  rw [h, hr]
  exact ⟨L', s', hk⟩

theorem step_semu {o : Oper} {l : Env} {L : List HP} {K : Value → List HP → Prop} {X : List PanicEntry → List HP → Prop} {s : Sem Unit}
    (h : ∀ w, (execOp (evl l) o).run P w = (s.run P w).andThen fun _ w => .ok .skip w)
    (k : Sm P (do s; pure undef) L K) : Step P o l L K X := by
  intro w hs
  obtain ⟨v, w', L', hr, s', hk⟩ := k.go w hs
  rw [h]
  simp only [Sem.run_bind, Sem.run_pure] at hr
  cases hr' : s.run P w with
  | halt x w1 => rw [hr'] at hr; simp at hr
  | ok u w1 =>
    rw [hr'] at hr
    simp at hr
    obtain ⟨rfl, rfl⟩ := hr
    exact ⟨L', s', hk⟩

theorem und {i : TyI} {t : TypeId} (h : TyOk P t i) : ∃ D, bare D = i.d ∧ fieldsOf D = i.fs ∧ ∀ w, (underlying t).run P w = .ok D w := by
  obtain ⟨D, h1, h2, h3⟩ := h.und
  exact ⟨D, h2, h3, fun w => run_underlying h1 w⟩
/-- of a form that has no fields, no methods -/
def plainD : TypeDesc → Bool
  | .struct _ | .interface _ | .func _ _ _ => false
  | _ => true
theorem undP {i : TyI} {t : TypeId} (h : TyOk P t i) {d : TypeDesc} (hd : i.d = d) (hp : plainD d = true) (w : World) : (underlying t).run P w = .ok d w := by
  obtain ⟨D, h1, _, h3⟩ := und h
  have : D = d := by subst hd; cases D <;> first | exact h1 | (rw [← h1] at hp; simp [bare, plainD] at hp)
  rw [← this]; exact h3 w
theorem undS {i : TyI} {t : TypeId} (h : TyOk P t i) {x : Array Field} (hd : i.d = .struct x) : ∃ fs : Array Field, (fs.toList.map fun f => (f.offset, f.type)) = i.fs ∧ ∀ w, (underlying t).run P w = .ok (.struct fs) w := by
  obtain ⟨D, h1, h2, h3⟩ := und h
  rw [hd] at h1
  cases D <;> simp [bare] at h1
  rename_i fs
  exact ⟨fs, h2, h3⟩
theorem undU {i : TyI} {t : TypeId} (h : TyOk P t i) {d : TypeDesc} (hd : i.d = d) (hp : plainD d = true) : P.underlying t = some d := by
  obtain ⟨D, h0, h1, _⟩ := h.und
  have : D = d := by subst hd; cases D <;> first | exact h1 | (rw [← h1] at hp; simp [bare, plainD] at hp)
  rw [← this]; exact h0
theorem tinfo {i : TyI} {t : TypeId} (h : TyOk P t i) (w : World) : ∃ f, (typeInfo t).run P w = .ok f w ∧ f.size = i.size ∧ f.bytes = i.bytes ∧ f.zero = some i.zero := by
  obtain ⟨f, hf, h1⟩ := h.info
  exact ⟨f, by simp [typeInfo, hf], h1⟩
theorem szOf {i : TyI} {t : TypeId} (h : TyOk P t i) (w : World) : (sizeOf t).run P w = .ok i.size w := by
  obtain ⟨f, hf, h1, _⟩ := tinfo h w
  simp [sizeOf, hf, h1]
theorem zeroOf {i : TyI} {t : TypeId} (h : TyOk P t i) (w : World) : (zeroValue t).run P w = .ok i.zero w := by
  obtain ⟨f, hf, _, _, h1⟩ := tinfo h w
  simp [zeroValue, hf, h1]
theorem aggOf {i : TyI} {t : TypeId} (h : TyOk P t i) (w : World) : (isAgg t).run P w = .ok (aggD i.d) w := by
  obtain ⟨D, h1, _, h3⟩ := und h
  simp only [isAgg, Sem.run_bind, h3, Result.andThen_ok]
  rw [← h1]
  cases D <;> rfl

theorem intC_spec {op : BinOp} {t : TypeId} {k : IntKind} {x y : Int} {K : Value → Prop} (h : intC op k x y K) :
    ∃ v, (∀ w, (binOp op t (.int k x) (.int k y)).run P w = .ok v w) ∧ K v := by
  cases op <;> simp only [intC] at h
  case add => exact ⟨_, fun w => by simp [binOp, Op.intArith], h.go⟩
  case sub => exact ⟨_, fun w => by simp [binOp, Op.intArith], h.go⟩
  case mul => exact ⟨_, fun w => by simp [binOp, Op.intArith], h.go⟩
  case quo => exact ⟨_, fun w => by simp [binOp, Op.intDiv, h.is], h.go.go⟩
  case rem => exact ⟨_, fun w => by simp [binOp, Op.intDiv, h.is], h.go⟩
  case and => exact ⟨_, fun w => by simp [binOp, intBits_and], h.go⟩
  case or => exact ⟨_, fun w => by simp [binOp, intBits_or], h.go⟩
  case xor => exact ⟨_, fun w => by simp [binOp, intBits_xor], h.go⟩
  case andNot => exact ⟨_, fun w => by simp [binOp, intBits_andNot], h.go⟩
  case eql => exact ⟨_, fun w => by simp only [binOp, Op.intCmp, ne_eq, not_true_eq_false, if_false, Sem.run_pure]; rfl, h⟩
  case neq => exact ⟨_, fun w => by simp only [binOp, Op.intCmp, ne_eq, not_true_eq_false, if_false, Sem.run_pure]; rfl, h⟩
  case lss => exact ⟨_, fun w => by simp [binOp, Op.intCmp], h⟩
  case leq => exact ⟨_, fun w => by simp [binOp, Op.intCmp], h⟩
  case gtr => exact ⟨_, fun w => by simp [binOp, Op.intCmp], h⟩
  case geq => exact ⟨_, fun w => by simp [binOp, Op.intCmp], h⟩
  case shl => exact ⟨_, fun w => by simp [binOp, Op.shift, Int.not_lt.2 h.is], h.go.go⟩
  case shr => exact ⟨_, fun w => by simp [binOp, Op.shift, Int.not_lt.2 h.is], h.go.go⟩
theorem shl_spec {t : TypeId} {j k : IntKind} {x y : Int} {K : Value → Prop} (h : intC .shl j x y K) :
    ∃ v, (∀ w, (binOp .shl t (.int j x) (.int k y)).run P w = .ok v w) ∧ K v :=
  ⟨_, fun w => by simp [binOp, Op.shift, Int.not_lt.2 h.is], h.go.go⟩
theorem shr_spec {t : TypeId} {j k : IntKind} {x y : Int} {K : Value → Prop} (h : intC .shr j x y K) :
    ∃ v, (∀ w, (binOp .shr t (.int j x) (.int k y)).run P w = .ok v w) ∧ K v :=
  ⟨_, fun w => by simp [binOp, Op.shift, Int.not_lt.2 h.is], h.go.go⟩

theorem bytes_beq (x y : ByteArray) : (x.toList == y.toList) = decide (x = y) := by
  rw [ByteArray.toList_eq, ByteArray.toList_eq, Bool.eq_iff_iff]
  simp only [beq_iff_eq, decide_eq_true_eq]
  constructor
  · intro h; exact ByteArray.ext (Array.ext' h)
  · rintro rfl; rfl
theorem strC_spec {op : BinOp} {t : TypeId} {x y : ByteArray} {K : Value → Prop} (h : strC op x y K) :
    ∃ v, (∀ w, (binOp op t (.string x) (.string y)).run P w = .ok v w) ∧ K v := by
  cases op <;> simp only [strC] at h
  case add =>
    refine ⟨_, fun w => ?_, h.go⟩
    have := h.is
    simp only [binOp, Op.stringOp]
    rw [if_neg (by rw [IntKind.max_i64]; omega)]
    rfl
  case eql => exact ⟨_, fun w => by simp only [binOp, Op.stringOp, Sem.run_pure, bytes_beq], h⟩
  case neq => exact ⟨_, fun w => by simp only [binOp, Op.stringOp, Sem.run_pure, bytes_beq], h⟩

variable {o : Oper} {l : Env}
/-! loads and stores -/
theorem run_loadCellsFrom {w : World} {a : Addr} : ∀ (vs : List Value) (i : Nat) (acc : Array Value), (∀ j u, vs[j]? = some u → w.cell? (a.add (i + j)) = some u) →
    (loadCellsFrom a i vs.length acc).run P w = .ok (acc ++ vs.toArray) w
  | [], i, acc, _ => by simp [loadCellsFrom]
  | v :: vs, i, acc, h => by
    have h0 := h 0 v (by simp)
    simp only [Nat.add_zero] at h0
    simp only [List.length_cons, loadCellsFrom, Sem.run_bind, run_load, h0, Result.andThen_ok]
    rw [run_loadCellsFrom vs (i + 1) (acc.push v) (fun j u hj => by
      have := h (j + 1) u (by simpa using hj)
      rw [show i + 1 + j = i + (j + 1) from by omega]; exact this)]
    simp
theorem run_loadCells {w : World} {a : Addr} (vs : List Value) (h : ∀ j u, vs[j]? = some u → w.cell? (a.add j) = some u) :
    (loadCells a vs.length).run P w = .ok vs.toArray w := by
  unfold loadCells
  rw [run_loadCellsFrom vs 0 #[] (fun j u hj => by rw [Nat.zero_add]; exact h j u hj)]
  simp

theorem eqGuard_int {op : BinOp} {t : TypeId} {x y : Operand} {k : IntKind} {n : Int} {v : Value} : eqGuard op t x y (.int k n) v = pure () := by cases op <;> rfl
theorem eqGuard_str {op : BinOp} {t : TypeId} {x y : Operand} {s : ByteArray} {v : Value} : eqGuard op t x y (.string s) v = pure () := by cases op <;> rfl
theorem eqGuard_bool {op : BinOp} {t : TypeId} {x y : Operand} {s : Bool} {v : Value} : eqGuard op t x y (.bool s) v = pure () := by cases op <;> rfl

theorem flat_repl {zs : List Value} : ∀ (n i : Nat), i < n * zs.length → ((List.replicate n zs).flatten)[i]? = zs[i % zs.length]?
  | 0, i, h => by omega
  | n + 1, i, h => by
    rw [List.replicate_succ, List.flatten_cons, List.getElem?_append]
    split
    · rename_i hlt; rw [Nat.mod_eq_of_lt hlt]
    · rename_i hge
      rw [flat_repl n (i - zs.length) (by rw [Nat.succ_mul] at h; omega)]
      congr 1
      rw [← Nat.add_mod_right (i - zs.length) zs.length, Nat.sub_add_cancel (by omega)]
theorem zero_row (zs : List Value) (n : Nat) : (Array.range (n * zs.length)).map (fun i => zs.toArray[i % zs.toArray.size]!) = ((List.replicate n zs).flatten).toArray := by
  apply Array.ext'
  apply List.ext_getElem?
  intro i
  simp only [Array.toList_map, Array.toList_range, List.size_toArray, List.getElem!_toArray, List.getElem?_map]
  by_cases h : i < n * zs.length
  · rw [flat_repl n i h, List.getElem?_range h]
    have hp : 0 < zs.length := by
      rcases Nat.eq_zero_or_pos zs.length with h0 | h0
      · rw [h0] at h; omega
      · exact h0
    have hm := Nat.mod_lt i hp
    simp [List.getElem?_eq_getElem hm]
  · rw [List.getElem?_eq_none (by simpa using h), List.getElem?_eq_none (by simp; omega)]
    rfl

theorem cells_len {i : TyI} {t : TypeId} (h : TyOk P t i) : (cellsL i.zero).length = i.size := by
  have := h.zl
  rw [cellsL_eq] at this
  simpa using this

theorem part_spec (hτ : TysOk P τ) {t : TypeId} {cs : List Value} {off : Nat} {K : Value → Prop} (h : partC τ t cs off K) :
    ∃ v, (∀ w, (part t cs.toArray off).run P w = .ok v w) ∧ K v := by
  unfold partC at h
  obtain ⟨i, hi, h⟩ := tyK_spec h
  have hi := hτ _ _ hi
  cases hg : aggD i.d with
  | true =>
    rw [hg] at h
    simp only [cond_true, forceL_eq] at h
    refine ⟨_, fun w => ?_, h⟩
    simp only [part, Sem.run_bind, aggOf hi, hg, Result.andThen_ok, if_true, szOf hi, Sem.run_pure]
    congr 2
    apply Array.ext'
    simp [List.extract_eq_take_drop]
  | false =>
    rw [hg] at h
    simp only [cond_false, nthK_eq] at h
    refine ⟨_, fun w => ?_, h.go⟩
    have hlt := h.is
    simp [part, aggOf hi, hg, hlt]

theorem ovr_len : ∀ (cs : List Value) (n : Nat) (vs : List Value), (ovr cs n vs).length = cs.length
  | [], _, _ => by simp [ovr]
  | _ :: _, 0, [] => by simp [ovr]
  | _ :: cs, 0, _ :: vs => by simp [ovr, ovr_len cs 0 vs]
  | _ :: cs, n + 1, vs => by simp [ovr, ovr_len cs n vs]
theorem ovr_get : ∀ (cs : List Value) (n : Nat) (vs : List Value) (i : Nat), n + vs.length ≤ cs.length → (ovr cs n vs)[i]? = if n ≤ i ∧ i < n + vs.length then vs[i - n]? else cs[i]?
  | [], n, vs, i, h => by
    have h1 : vs = [] := by rw [← List.length_eq_zero_iff]; simp only [List.length_nil] at h; omega
    subst h1
    simp [ovr]
  | c :: cs, 0, [], i, _ => by simp [ovr]
  | c :: cs, 0, v :: vs, i, h => by
    cases i with
    | zero => simp [ovr]
    | succ i =>
      have := ovr_get cs 0 vs i (by simp at h ⊢; omega)
      simp only [ovr, List.getElem?_cons_succ, this, List.length_cons, Nat.zero_add, Nat.zero_le, true_and, Nat.sub_zero]
      by_cases hlt : i < vs.length
      · rw [if_pos hlt, if_pos (by omega)]
      · rw [if_neg hlt, if_neg (by omega)]
  | c :: cs, n + 1, vs, i, h => by
    cases i with
    | zero => simp [ovr]
    | succ i =>
      have := ovr_get cs n vs i (by simp at h; omega)
      simp only [ovr, List.getElem?_cons_succ, this]
      by_cases hlt : n ≤ i ∧ i < n + vs.length
      · rw [if_pos hlt, if_pos (by omega), show i + 1 - (n + 1) = i - n from by omega]
      · rw [if_neg hlt, if_neg (by omega)]

/-- the model's 'fill' -/
theorem set_ovr : ∀ (cs : List Value) (n : Nat) (v : Value) (vs : List Value), n < cs.length → ovr cs n (v :: vs) = ovr (cs.set n v) (n + 1) vs
  | [], _, _, _, h => by simp at h
  | c :: cs, 0, v, vs, _ => by cases vs <;> simp [ovr]
  | c :: cs, n + 1, v, vs, h => by
    have := set_ovr cs n v vs (by simpa using h)
    simp [ovr, this]
theorem ovr_nil : ∀ (cs : List Value) (n : Nat), ovr cs n [] = cs
  | [], _ => by simp [ovr]
  | _ :: _, 0 => by simp [ovr]
  | c :: cs, n + 1 => by simp [ovr, ovr_nil cs n]
theorem fold_list (off : Nat) : ∀ (vs : List Value) (j : Nat) (cs : List Value), off + j + vs.length ≤ cs.length →
    (vs.zipIdx j).foldl (fun (cs : Array Value) (p : Value × Nat) => cs.setIfInBounds (off + p.2) p.1) cs.toArray = (ovr cs (off + j) vs).toArray
  | [], j, cs, _ => by simp [ovr_nil]
  | v :: vs, j, cs, h => by
    simp only [List.length_cons] at h
    rw [List.zipIdx_cons, List.foldl_cons]
    simp only [List.setIfInBounds_toArray]
    rw [fold_list off vs (j + 1) (cs.set (off + j) v) (by simp; omega), set_ovr _ _ _ _ (by omega), Nat.add_assoc]
theorem fold_ovr (off : Nat) (vs cs : List Value) (h : off + vs.length ≤ cs.length) :
    (vs.toArray.zipIdx).foldl (fun (cs : Array Value) (p : Value × Nat) => cs.setIfInBounds (off + p.2) p.1) cs.toArray = (ovr cs off vs).toArray := by
  rw [← Array.foldl_toList, Array.toList_zipIdx]
  exact fold_list off vs 0 cs h

theorem lay_spec {place : Nat → Option (Nat × Nat)} {pk : Nat → (Nat × Nat → Prop) → Prop} (hp : ∀ i k, pk i k → ∃ p, place i = some p ∧ k p) :
    ∀ (vs : List (Nat × Value)) (cells : List Value) (k : List Value → Prop), layK pk cells vs k → ∃ cs, Instr.fill place cells.toArray vs = some cs.toArray ∧ k cs
  | [], cells, k, h => ⟨cells, by simp [Instr.fill], h⟩
  | (i, v) :: vs, cells, k, h => by
    simp only [layK, cellsK_eq, forceL_eq] at h
    obtain ⟨⟨off, size⟩, hpl, h⟩ := hp _ _ h
    simp only [cond_eq_ite, Bool.and_eq_true, Nat.ble_eq] at h
    split at h
    · rename_i hc
      obtain ⟨hc1, hc2⟩ := hc
      have hc1 := Nat.eq_of_beq_eq_true hc1
      obtain ⟨cs, hf, hk⟩ := lay_spec hp vs _ k h
      refine ⟨cs, ?_, hk⟩
      simp only [Instr.fill, hpl, cellsL_eq, List.size_toArray]
      rw [if_neg (by simp only [Bool.or_eq_true, decide_eq_true_eq]; omega)]
      rw [fold_ovr off (cellsL v) cells hc2]
      exact hf
    · exact h.elim

theorem places_spec (hτ : TysOk P τ) : ∀ {fs : List Field} {k : List (Nat × Nat) → Prop}, placesK τ (fs.map fun f => (f.offset, f.type)) k → ∃ ps, (∀ w, (fs.mapM (m := Sem) fun f => do pure (f.offset, ← sizeOf f.type)).run P w = .ok ps w) ∧ k ps
  | [], k, h => ⟨[], fun w => by simp, h⟩
  | f :: fs, k, h => by
    simp only [List.map_cons, placesK] at h
    obtain ⟨j, hj, h⟩ := tyK_spec h
    have hj := hτ _ _ hj
    obtain ⟨ps, hps, hk⟩ := places_spec hτ h
    refine ⟨(f.offset, j.size) :: ps, fun w => ?_, hk⟩
    rw [List.mapM_cons]
    simp only [Sem.run_bind, szOf hj, Result.andThen_ok, Sem.run_pure, hps]

theorem sliceBounds_run {isS : Bool} {len cap lo' hi' : Nat} {lo hi : Option Value} {w : World}
    (h1 : match lo with | some v => ∃ k, v = .int k lo' | none => lo' = 0) (h2 : match hi with | some v => ∃ k, v = .int k hi' | none => hi' = len) (h3 : lo' ≤ hi') (h4 : hi' ≤ cap) :
    (Instr.sliceBounds isS len cap lo hi none).run P w = .ok (lo', hi', cap) w := by
  have b1 : ∀ (k : IntKind) (c : BoundsCode) (y x : Nat), x ≤ y → (Instr.sliceBound (.int k x) y c).run P w = .ok x w := by
    intro k c y x hxy
    simp only [Instr.sliceBound, asIntOf, Sem.run_bind, Sem.run_pure, Result.andThen_ok, Sem.run_ite]
    rw [if_pos (by omega)]
    rfl
  cases lo with
  | none =>
    subst h1
    cases hi with
    | none => subst h2; simp [Instr.sliceBounds]
    | some v =>
      obtain ⟨k, rfl⟩ := h2
      cases isS <;> simp [Instr.sliceBounds, b1 _ _ _ _ h4]
  | some u =>
    obtain ⟨k', rfl⟩ := h1
    cases hi with
    | none => subst h2; simp [Instr.sliceBounds, b1 _ _ _ _ h3]
    | some v =>
      obtain ⟨k, rfl⟩ := h2
      cases isS <;> simp [Instr.sliceBounds, b1 _ _ _ _ h4, b1 _ _ _ _ h3]

theorem min2_int (k k' : IntKind) (a b : Int) : Builtin.min2 (.int k a) (.int k' b) = pure (.int k (min a b)) := by
  have e : (if b < a then b else a) = min a b := by rw [Int.min_def]; split <;> split <;> omega
  rw [← e]
  rfl
theorem max2_int (k k' : IntKind) (a b : Int) : Builtin.max2 (.int k a) (.int k' b) = pure (.int k (max a b)) := by
  have e : (if b > a then b else a) = max a b := by rw [Int.max_def]; split <;> split <;> omega
  rw [← e]
  rfl
theorem foldInt_spec {op : Builtin} {ts : Array TypeId} {ty : TypeId} {f : Int → Int → Int} {g : Value → Value → Sem Value} {k : IntKind}
    (hg : ∀ (k' : IntKind) (a b : Int), g (.int k a) (.int k' b) = pure (.int k (f a b))) : ∀ (vs : List Value) (a : Int) (K : Value → Prop), foldInt f k a vs K →
    ∃ v, (∀ w, (vs.foldlM g (.int k a)).run P w = .ok v w) ∧ K v
  | [], a, K, h => ⟨_, fun w => by simp, h⟩
  | v :: vs, a, K, h => by
    cases v <;> simp only [foldInt] at h <;> try exact h.elim
    rename_i k' b
    obtain ⟨u, hu, hK⟩ := foldInt_spec (op := op) (ts := ts) (ty := ty) hg vs _ K h
    exact ⟨u, fun w => by rw [List.foldlM_cons, hg]; simpa using hu w, hK⟩

section
variable {K : Value → Prop} {F : Sem Value → Prop}

theorem eq_fields_spec (hτ : TysOk P τ) {n m : Nat} {xs ys : List Value}
    (hE : ∀ (t : TypeId) (x y : Value) (k : DecK), eqT τ n t x y k → ∃ (p : Prop) (ip : Decidable p), (∀ w, (Op.equalIn (n + m) t x y).run P w = .ok (@decide p ip) w) ∧ k p ip) :
    ∀ (fs : List Field) (k : DecK), (fs.all fun f => !(f.name == "_")) = true → eqFs τ (eqT τ n) xs ys (fs.map fun f => (f.offset, f.type)) k →
      ∃ (p : Prop) (ip : Decidable p), (∀ w, (Op.eqFields (n + m) xs.toArray ys.toArray fs).run P w = .ok (@decide p ip) w) ∧ k p ip
  | [], k, _, h => ⟨True, inferInstance, fun w => by simp [Op.eqFields], h⟩
  | [f], k, hn, h => by
    simp only [List.map_cons, List.map_nil, eqFs] at h
    simp only [List.all_cons, List.all_nil, Bool.and_true, Bool.not_eq_true', beq_eq_false_iff_ne] at hn
    obtain ⟨a, ha, h⟩ := part_spec hτ h
    obtain ⟨b, hb, h⟩ := part_spec hτ h
    obtain ⟨p, ip, hp, hk⟩ := hE _ _ _ _ h
    refine ⟨p, ip, fun w => ?_, hk⟩
    simp only [Op.eqFields, ne_eq, hn, not_false_eq_true, if_true, Sem.run_bind, ha, hb, hp, Result.andThen_ok, Sem.run_ite]
    by_cases h : p <;> simp [h]
  | f :: g :: fs, k, hn, h => by
    simp only [List.map_cons, eqFs] at h
    rw [List.all_cons, Bool.and_eq_true] at hn
    obtain ⟨hn1, hn2⟩ := hn
    simp only [Bool.not_eq_true', beq_eq_false_iff_ne] at hn1
    obtain ⟨a, ha, h⟩ := part_spec hτ h
    obtain ⟨b, hb, h⟩ := part_spec hτ h
    obtain ⟨p, ip, hp, h⟩ := hE _ _ _ _ h
    obtain ⟨q, iq, hq, hk⟩ := eq_fields_spec hτ hE (g :: fs) _ hn2 h
    refine ⟨p ∧ q, @instDecidableAnd p q ip iq, fun w => ?_, hk⟩
    rw [Op.eqFields]
    simp only [ne_eq, hn1, not_false_eq_true, if_true, Sem.run_bind, ha, hb, hp, Result.andThen_ok, Sem.run_ite]
    by_cases h : p
    · simp only [h, decide_true, Bool.not_true, Bool.false_eq_true, if_false, hq, true_and]
    · simp [h]

theorem eq_items_spec (hτ : TysOk P τ) {n m : Nat} {e : TypeId} {s : Nat} {xs ys : List Value}
    (hE : ∀ (x y : Value) (k : DecK), eqT τ n e x y k → ∃ (p : Prop) (ip : Decidable p), (∀ w, (Op.equalIn (n + m) e x y).run P w = .ok (@decide p ip) w) ∧ k p ip) :
    ∀ (c a0 : Nat) (k : DecK), eqAs τ (eqT τ n e) e xs ys s a0 c k →
      ∃ (p : Prop) (ip : Decidable p), (∀ w, (Op.eqItems (n + m) e s xs.toArray ys.toArray (List.range' a0 c)).run P w = .ok (@decide p ip) w) ∧ k p ip
  | 0, a0, k, h => ⟨True, inferInstance, fun w => by simp [Op.eqItems], h⟩
  | c + 1, a0, k, h => by
    simp only [eqAs] at h
    obtain ⟨a, ha, h⟩ := part_spec hτ h
    obtain ⟨b, hb, h⟩ := part_spec hτ h
    obtain ⟨p, ip, hp, h⟩ := hE _ _ _ h
    obtain ⟨q, iq, hq, hk⟩ := eq_items_spec hτ hE c (a0 + 1) _ h
    refine ⟨p ∧ q, @instDecidableAnd p q ip iq, fun w => ?_, hk⟩
    rw [List.range'_succ, Op.eqItems]
    simp only [Sem.run_bind, ha, hb, hp, Result.andThen_ok, Sem.run_ite]
    by_cases h : p
    · simp only [h, decide_true, Bool.not_true, Bool.false_eq_true, if_false, hq, true_and]
    · simp [h]

theorem eqT_spec (hτ : TysOk P τ) : ∀ (n : Nat) (m : Nat) (t : TypeId) (x y : Value) (k : DecK), eqT τ n t x y k →
    ∃ (p : Prop) (ip : Decidable p), (∀ w, (Op.equalIn (n + m) t x y).run P w = .ok (@decide p ip) w) ∧ k p ip
  | 0, _, _, _, _, _, h => by simp [eqT] at h
  | n + 1, m, t, x, y, k, h => by
    unfold eqT at h
    obtain ⟨i, hi, h⟩ := tyK_spec h
    have hi := hτ _ _ hi
    rw [show n + 1 + m = n + m + 1 from by omega]
    split at h
    · rename_i kd j a j' b hd _
      cases hk : Nat.beq (kindN j) (kindN j') with
      | false => rw [hk] at h; exact h.elim
      | true =>
        rw [hk] at h
        have h2 : k (a = b) inferInstance := h
        have := kindN_inj hk
        subst this
        exact ⟨a = b, inferInstance, fun w => by rw [run_equalIn_int w (n + m) t j kd a b (undU hi hd rfl)]; rfl, h2⟩
    · rename_i a b hd _
      exact ⟨a = b, inferInstance, fun w => by rw [run_equalIn_bool w (n + m) t a b (undU hi hd rfl)]; cases a <;> cases b <;> rfl, h⟩
    · rename_i a b hd _
      exact ⟨a = b, inferInstance, fun w => by rw [run_equalIn_string w (n + m) t a b (undU hi hd rfl), bytes_beq], h⟩
    · rename_i x0 xs ys hd _
      cases he : i.eq with
      | false => rw [he] at h; exact h.elim
      | true =>
        rw [he] at h
        simp only [cond_true] at h
        obtain ⟨fs, hfs, hu⟩ := undS hi hd
        have h0 := hi.eq0
        rw [he] at h0
        simp only [Bool.not_true, Bool.false_or, Bool.not_eq_true', Bool.or_eq_false_iff] at h0
        have hul : P.underlying t = some (.struct fs) := by
          obtain ⟨D, hD, _⟩ := hi.und
          have := hu default
          rw [run_underlying hD] at this
          simp only [Result.ok.injEq, and_true] at this
          rw [hD, this]
        have hpf : P.fieldsOf t = fs := by simp [Program.fieldsOf, hul]
        rw [← hfs] at h
        obtain ⟨p, ip, hp, hk⟩ := eq_fields_spec hτ (m := m) (fun t x y k h => eqT_spec hτ n m t x y k h) fs.toList k (by
          have := h0.2
          simp only [namesBad, hul] at this
          rw [List.all_eq_not_any_not]
          simpa using this) h
        refine ⟨p, ip, fun w => ?_, hk⟩
        rw [show (Array.mk xs) = xs.toArray from rfl, show (Array.mk ys) = ys.toArray from rfl, run_equalIn_struct w (n + m) t _ _ (by rw [hpf]; exact hul) h0.1.1, hpf]
        exact hp w
    · rename_i len e xs ys hd _
      obtain ⟨j, hj, h⟩ := tyK_spec h
      have hj := hτ _ _ hj
      obtain ⟨f, hf, hs, _⟩ := hj.info
      obtain ⟨p, ip, hp, hk⟩ := eq_items_spec hτ (m := m) (fun x y k h => eqT_spec hτ n m e x y k h) len 0 k h
      refine ⟨p, ip, fun w => ?_, hk⟩
      have hc : P.cellsOf e = j.size := by simp [Program.cellsOf, hf, hs]
      rw [show (Array.mk xs) = xs.toArray from rfl, show (Array.mk ys) = ys.toArray from rfl, run_equalIn_array w (n + m) _ _ (undU hi hd rfl) hf, hc, List.range_eq_range']
      exact hp w
    · exact h.elim

theorem pure_binOp {op : BinOp} {t t2 : TypeId} {x y : Operand} (ho : o.op = .binOp op t x y t2) {v : Value}
    (hg : ∀ w, (eqGuard op t x y (evl l x) (evl l y)).run P w = .ok () w) (hr : ∀ w, (binOp op t (evl l x) (evl l y)).run P w = .ok v w) (k : K v) : Val P o l K F :=
  Val.mk v (fun w => by simp only [execOp, ho, Sem.run_bind, hg, Sem.run_pure, Result.andThen_ok, hr]) k

theorem eqGuard_agg {op : BinOp} {t : TypeId} {x y : Operand} {a b : Array Value} (h : P.eqGuardType P.depth t = false) (w : World) : (eqGuard op t x y (.agg a) (.agg b)).run P w = .ok () w := by
  cases op <;> first | rfl | (simp [eqGuard, h])
theorem eqGuard_ptr {op : BinOp} {t : TypeId} {x y : Operand} {a : Option Addr} {v : Value} : eqGuard op t x y (.pointer a) v = pure () := by cases op <;> rfl
theorem eqGuard_slc {op : BinOp} {t : TypeId} {x y : Operand} {a : Option Addr} {n c : Nat} {v : Value} : eqGuard op t x y (.slice a n c) v = pure () := by cases op <;> rfl

theorem ptr_nil {t e : TypeId} {i : TyI} (hi : TyOk P t i) (hd : i.d = .pointer e) (a : Option Addr) (d : Nat) (w : World) :
    (Op.equalIn (d + 1) t (.pointer a) (.pointer none)).run P w = .ok a.isNone w := by
  simp only [Op.equalIn, Sem.run_bind, undP hi hd rfl, Result.andThen_ok]
  cases a <;> rfl
theorem slc_nil {t e : TypeId} {i : TyI} (hi : TyOk P t i) (hd : i.d = .slice e) (a : Option Addr) (n c n' c' : Nat) (d : Nat) (w : World) :
    (Op.equalIn (d + 1) t (.slice a n c) (.slice none n' c')).run P w = .ok a.isNone w := by
  simp only [Op.equalIn, Sem.run_bind, undP hi hd rfl, Result.andThen_ok]
  cases a <;> rfl
theorem pure_bin (hτ : TysOk P τ) {op : BinOp} {t t2 : TypeId} {x y : Operand} (ho : o.op = .binOp op t x y t2) (h : pureC τ o l K F) : Val P o l K F := by
  simp only [pureC, ho, evK_eq] at h
  have raw : ∀ vx vy, evl l x = vx → evl l y = vy → F (do eqGuard op t x y vx vy; binOp op t vx vy) → Val P o l K F := by
    rintro vx vy rfl rfl hs
    exact Val.sem (fun w => by simp only [execOp, ho, Sem.run_bind]; rfl) hs
  unfold binC at h
  split at h
  · rename_i j a k b hx hy
    have hg : ∀ w, (eqGuard op t x y (evl l x) (evl l y)).run P w = .ok () w := fun w => by rw [hx, eqGuard_int]; rfl
    cases hk : Nat.beq (kindN j) (kindN k) with
    | true =>
      have := kindN_inj hk
      subst this
      simp only [hk, cond_true] at h
      obtain ⟨v, hr, hK⟩ := intC_spec (P := P) (t := t) h
      exact pure_binOp ho hg (fun w => by rw [hx, hy]; exact hr w) hK
    | false =>
      simp only [hk, cond_false] at h
      split at h
      · obtain ⟨v, hr, hK⟩ := shl_spec (P := P) (t := t) (k := k) h
        exact pure_binOp ho hg (fun w => by rw [hx, hy]; exact hr w) hK
      · obtain ⟨v, hr, hK⟩ := shr_spec (P := P) (t := t) (k := k) h
        exact pure_binOp ho hg (fun w => by rw [hx, hy]; exact hr w) hK
      · exact h.elim
  · rename_i a b hx hy
    have hg : ∀ w, (eqGuard op t x y (evl l x) (evl l y)).run P w = .ok () w := fun w => by rw [hx, eqGuard_bool]; rfl
    obtain ⟨i, hi, h⟩ := tyK_spec h
    have hi := hτ _ _ hi
    split at h
    · rename_i hd _
      exact pure_binOp ho hg (fun w => by rw [hx, hy]; exact run_eql_bool w t a b (undU hi hd rfl)) h
    · rename_i hd _
      exact pure_binOp ho hg (fun w => by rw [hx, hy]; exact run_neq_bool w t a b (undU hi hd rfl)) h
    · exact h.elim
  · rename_i a b hx hy
    obtain ⟨v, hr, hK⟩ := strC_spec (P := P) (t := t) h
    exact pure_binOp ho (fun w => by rw [hx, eqGuard_str]; rfl) (fun w => by rw [hx, hy]; exact hr w) hK
  · rename_i a b hx hy
    obtain ⟨i, hi, h⟩ := tyK_spec h
    have hi := hτ _ _ hi
    cases he : i.eq with
    | false => rw [he] at h; exact h.elim
    | true =>
      rw [he] at h
      simp only [cond_true] at h
      have h0 := hi.eq0
      rw [he] at h0
      simp only [Bool.not_true, Bool.false_or, Bool.not_eq_true', Bool.or_eq_false_iff] at h0
      have hg : ∀ w, (eqGuard op t x y (evl l x) (evl l y)).run P w = .ok () w := fun w => by rw [hx, hy]; exact eqGuard_agg h0.1.2 w
      split at h
      · obtain ⟨p, ip, hp, hk⟩ := eqT_spec hτ 9 9991 _ _ _ _ (eqS_go h)
        refine pure_binOp ho hg (fun w => ?_) hk
        rw [hx, hy]
        simp only [binOp, Sem.run_bind, Op.equal, Op.maxDepth]
        rw [hp w]; rfl
      · obtain ⟨p, ip, hp, hk⟩ := eqT_spec hτ 9 9991 _ _ _ _ (eqS_go h)
        refine pure_binOp ho hg (fun w => ?_) hk
        rw [hx, hy]
        simp only [binOp, Sem.run_bind, Op.equal, Op.maxDepth]
        rw [hp w]; rfl
      · exact h.elim
  · rename_i a hx hy
    have hg : ∀ w, (eqGuard op t x y (evl l x) (evl l y)).run P w = .ok () w := fun w => by rw [hx, eqGuard_ptr]; rfl
    obtain ⟨i, hi, h⟩ := tyK_spec h
    have hi := hτ _ _ hi
    have he : ∀ e, i.d = .pointer e → ∀ w, (Op.equal t (.pointer a) (.pointer none)).run P w = .ok a.isNone w := fun e hd w => ptr_nil hi hd a 9999 w
    split at h
    · rename_i e hd _
      exact pure_binOp ho hg (fun w => by rw [hx, hy]; simp only [binOp, Sem.run_bind, he _ hd]; rfl) h
    · rename_i e hd _
      exact pure_binOp ho hg (fun w => by rw [hx, hy]; simp only [binOp, Sem.run_bind, he _ hd]; rfl) h
    · exact h.elim
  · rename_i a n c n' c' hx hy
    have hg : ∀ w, (eqGuard op t x y (evl l x) (evl l y)).run P w = .ok () w := fun w => by rw [hx, eqGuard_slc]; rfl
    obtain ⟨i, hi, h⟩ := tyK_spec h
    have hi := hτ _ _ hi
    have he : ∀ e, i.d = .slice e → ∀ w, (Op.equal t (.slice a n c) (.slice none n' c')).run P w = .ok a.isNone w := fun e hd w => slc_nil hi hd a n c n' c' 9999 w
    split at h
    · rename_i e hd _
      exact pure_binOp ho hg (fun w => by rw [hx, hy]; simp only [binOp, Sem.run_bind, he _ hd]; rfl) h
    · rename_i e hd _
      exact pure_binOp ho hg (fun w => by rw [hx, hy]; simp only [binOp, Sem.run_bind, he _ hd]; rfl) h
    · exact h.elim
  · exact raw _ _ rfl rfl h
theorem pure_move {x : Operand} (ho : o.op = .move x) (h : pureC τ o l K F) : Val P o l K F := by
  simp only [pureC, ho, evK_eq] at h
  exact Val.mk _ (fun w => by simp [execOp, ho]) h
theorem pure_assign {x : Operand} (ho : o.op = .assign x) (h : pureC τ o l K F) : Val P o l K F := by
  simp only [pureC, ho, evK_eq] at h
  exact Val.mk _ (fun w => by simp [execOp, ho]) h
theorem pure_pick {c a b : Operand} (ho : o.op = .pick c a b) (h : pureC τ o l K F) : Val P o l K F := by
  simp only [pureC, ho, evK_eq] at h
  cases hc : evl l c <;> rw [hc] at h <;> try exact h.elim
  rename_i t
  cases t with
  | true => exact Val.mk (evl l a) (fun w => by simp [execOp, ho, hc, asBool]) (h.t rfl)
  | false => exact Val.mk (evl l b) (fun w => by simp [execOp, ho, hc, asBool]) (h.f rfl)

theorem pure_nil {x : Operand} (ho : o.op = .nilCheck x) (h : pureC τ o l K F) : Val P o l K F := by
  simp only [pureC, ho, evK_eq] at h
  cases hx : evl l x <;> rw [hx] at h <;> try exact h.elim
  · rename_i a
    cases a with
    | none => exact h.elim
    | some a => exact Val.mk _ (fun w => by simp [execOp, ho, hx]) h
  · rename_i f a b
    cases f <;> try exact h.elim
    exact Val.mk _ (fun w => by simp [execOp, ho, hx]) h

theorem pure_un {op : UnOp} {t : TypeId} {x : Operand} (ho : o.op = .unOp op t x) (h : pureC τ o l K F) : Val P o l K F := by
  simp only [pureC, ho, evK_eq] at h
  unfold unC at h
  split at h
  · rename_i b hx
    exact Val.mk _ (fun w => by simp [execOp, ho, hx, Op.unary]) h
  · rename_i k n hx
    exact Val.mk _ (fun w => by simp [execOp, ho, hx, Op.unary, Op.intArith]) h.go
  · exact Val.sem (fun w => by simp only [execOp, ho, Sem.run_bind]; rfl) h

theorem pure_conv (hτ : TysOk P τ) {s d : TypeId} {x : Operand} (ho : o.op = .convert s d x) (h : pureC τ o l K F) : Val P o l K F := by
  simp only [pureC, ho, evK_eq, convC] at h
  obtain ⟨i, hi, h⟩ := tyK_spec h
  have hi := hτ _ _ hi
  obtain ⟨j, hj, h⟩ := tyK_spec h
  have hj := hτ _ _ hj
  split at h
  · rename_i k k' n hd hx
    refine Val.mk _ (fun w => ?_) h.go
    obtain ⟨D, _, _, hD⟩ := und hi
    simp only [execOp, ho, Sem.run_bind, convert, hD, undP hj hd rfl, Result.andThen_ok, hx]
    cases D <;> rfl
  · rename_i str hd hx
    refine Val.mk _ (fun w => ?_) h
    obtain ⟨D, _, _, hD⟩ := und hi
    simp only [execOp, ho, Sem.run_bind, convert, hD, undP hj hd rfl, Result.andThen_ok, hx]
    cases D <;> rfl
  · exact Val.sem (fun w => by simp only [execOp, ho, Sem.run_bind]; rfl) h

theorem pure_makeFunc {fn : Fn} {a b : Array Operand} (ho : o.op = .makeFunc fn a b) (h : pureC τ o l K F) : Val P o l K F := by
  simp only [pureC, ho, evsK_eq] at h
  exact Val.mk _ (fun w => by simp [execOp, ho, Instr.makeFunc, ← List.map_toArray]) h
theorem pure_makeInterface (hτ : TysOk P τ) {t : TypeId} {x : Operand} (ho : o.op = .makeInterface t x) (h : pureC τ o l K F) : Val P o l K F := by
  simp only [pureC, ho, evK_eq] at h
  obtain ⟨i, hi, h⟩ := tyK_spec h
  have hi := hτ _ _ hi
  refine Val.mk (.iface t (evl l x)) (fun w => ?_) ?_
  · obtain ⟨D, hb, _, hD⟩ := und hi
    simp only [execOp, ho, Instr.makeInterface, Sem.run_bind, hD, Result.andThen_ok]
    rw [← hb] at h
    cases D <;> first | rfl | exact h.elim
  · cases hd : i.d <;> rw [hd] at h <;> first | exact h.elim | exact h
theorem pure_extract {x : Operand} {ix : Nat} (ho : o.op = .extract x ix) (h : pureC τ o l K F) : Val P o l K F := by
  simp only [pureC, ho, evK_eq, nthK_eq] at h
  split at h
  · rename_i vs hx
    have hlt := h.is
    refine Val.mk _ (fun w => ?_) h.go
    simp [execOp, ho, Instr.extract, hx, hlt]
  · exact h.elim

theorem pure_fieldAddr (hτ : TysOk P τ) {t : TypeId} {x : Operand} {f : Nat} (ho : o.op = .fieldAddr t x f) (h : pureC τ o l K F) : Val P o l K F := by
  simp only [pureC, ho, evK_eq] at h
  obtain ⟨i, hi, h⟩ := tyK_spec h
  have hi := hτ _ _ hi
  split at h
  · rename_i fs0 a hd hx
    obtain ⟨fs, hfs, hu⟩ := undS hi hd
    obtain ⟨⟨off, ft⟩, hf, h⟩ := fieldK_spec h
    rw [← hfs, List.getElem?_map] at hf
    obtain ⟨fd, hfd, he⟩ := Option.map_eq_some_iff.1 hf
    simp only [Prod.mk.injEq] at he
    obtain ⟨rfl, rfl⟩ := he
    obtain ⟨j, hj, h⟩ := tyK_spec h
    have hj := hτ _ _ hj
    cases hs : j.size with
    | zero => rw [hs] at h; exact h.elim
    | succ n =>
      rw [hs] at h
      simp only [addK_eq] at h
      refine Val.mk _ (fun w => ?_) h
      have hf' : fs[f]? = some fd := by simpa using hfd
      simp only [execOp, ho, Instr.fieldAt, Sem.run_bind, hu, hx, Result.andThen_ok, hf', Instr.sureAddr, Sem.run_pure, fieldPlace, szOf hj, hs]
      simp
  · exact h.elim

theorem pure_field (hτ : TysOk P τ) {t : TypeId} {x : Operand} {f : Nat} (ho : o.op = .field t x f) (h : pureC τ o l K F) : Val P o l K F := by
  simp only [pureC, ho, evK_eq] at h
  obtain ⟨i, hi, h⟩ := tyK_spec h
  have hi := hτ _ _ hi
  split at h
  · rename_i fs0 cs hd hx
    obtain ⟨fs, hfs, hu⟩ := undS hi hd
    obtain ⟨⟨off, ft⟩, hf, h⟩ := fieldK_spec h
    rw [← hfs, List.getElem?_map] at hf
    obtain ⟨fd, hfd, he⟩ := Option.map_eq_some_iff.1 hf
    simp only [Prod.mk.injEq] at he
    obtain ⟨rfl, rfl⟩ := he
    obtain ⟨v, hv, h⟩ := part_spec hτ h
    refine Val.mk _ (fun w => ?_) h
    have hf' : fs[f]? = some fd := by simpa using hfd
    simp only [execOp, ho, Instr.field, Sem.run_bind, hu, hx, Result.andThen_ok, hf', asAgg, Sem.run_pure]
    rw [show (Array.mk cs) = cs.toArray from rfl, hv]
    rfl
  · exact h.elim

theorem pure_indexAddr (hτ : TysOk P τ) {t : TypeId} {x ix : Operand} (ho : o.op = .indexAddr t x ix) (h : pureC τ o l K F) : Val P o l K F := by
  simp only [pureC, ho, evK_eq] at h
  obtain ⟨i, hi, h⟩ := tyK_spec h
  have hi := hτ _ _ hi
  split at h
  · rename_i e base len c k n hd hx hv
    obtain ⟨j, hj, h⟩ := tyK_spec h
    have hj := hτ _ _ hj
    obtain ⟨a, rfl, h0, h1, h⟩ := h.go
    refine Val.mk _ (fun w => ?_) h
    simp only [execOp, ho, Instr.indexAt, Sem.run_bind, asIntOf, hx, hv, undP hi hd rfl, Result.andThen_ok, Sem.run_pure, Sem.run_ite, szOf hj]
    rw [if_pos ⟨h0, h1⟩]
    rfl
  · rename_i len e base k n hd hx hv
    obtain ⟨j, hj, h⟩ := tyK_spec h
    have hj := hτ _ _ hj
    obtain ⟨a, rfl, h0, h1, h⟩ := h.go
    refine Val.mk _ (fun w => ?_) h
    simp only [execOp, ho, Instr.indexAt, Sem.run_bind, asIntOf, hx, hv, undP hi hd rfl, Result.andThen_ok, Sem.run_pure, Sem.run_ite, szOf hj, Instr.sureAddr]
    rw [if_pos ⟨h0, h1⟩]
    rfl
  · exact h.elim

theorem pure_index (hτ : TysOk P τ) {t : TypeId} {x ix : Operand} (ho : o.op = .index t x ix) (h : pureC τ o l K F) : Val P o l K F := by
  simp only [pureC, ho, evK_eq] at h
  obtain ⟨i, hi, h⟩ := tyK_spec h
  have hi := hτ _ _ hi
  split at h
  · rename_i s k n hd hx hv
    obtain ⟨b, h0, h1, h⟩ := h.go
    refine Val.mk _ (fun w => ?_) h
    simp [execOp, ho, Instr.index, asIntOf, hx, hv, undP hi hd rfl, h0, h1]
  · rename_i len e cs k n hd hx hv
    obtain ⟨j, hj, h2⟩ := tyK_spec h.go
    have hj := hτ _ _ hj
    obtain ⟨v, hv', h3⟩ := part_spec hτ h2
    refine Val.mk _ (fun w => ?_) h3
    simp only [execOp, ho, Instr.index, asIntOf, hx, hv, undP hi hd rfl, Sem.run_bind, Sem.run_pure, Result.andThen_ok, Sem.run_ite, szOf hj]
    rw [if_pos h.is, show (Array.mk cs) = cs.toArray from rfl, hv']
    rfl
  · exact h.elim

theorem pure_build (hτ : TysOk P τ) {t : TypeId} {ps : Array (Nat × Operand)} (ho : o.op = .build t ps) (h : pureC τ o l K F) : Val P o l K F := by
  simp only [pureC, ho, cellsK_eq, partsK_eq] at h
  obtain ⟨i, hi, h⟩ := tyK_spec h
  have hi := hτ _ _ hi
  have hps : (ps.map fun x => (x.1, evl l x.2)).toList = ps.toList.map fun p => (p.1, evl l p.2) := by simp
  split at h
  · rename_i fs0 hd
    obtain ⟨fs, hfs, hu⟩ := undS hi hd
    rw [← hfs] at h
    obtain ⟨places, hpl, h⟩ := places_spec hτ h
    obtain ⟨cs, hf, hk⟩ := lay_spec (place := fun i => places.toArray[i]?) (fun i k hk => by
      obtain ⟨p, hp, hk⟩ := fieldK_spec hk
      exact ⟨p, by simpa using hp, hk⟩) _ _ _ h
    refine Val.mk _ (fun w => ?_) hk
    have hm : (fs.mapM (m := Sem) fun f => do pure (f.offset, ← sizeOf f.type)).run P w = .ok places.toArray w := by
      rw [Array.mapM_eq_mapM_toList, Sem.run_map, hpl]
      rfl
    simp only [execOp, ho, Instr.build, Sem.run_bind, zeroOf hi, hu, Result.andThen_ok, hm, cellsL_eq, hps, hf, Sem.run_pure]
  · rename_i n e hd
    obtain ⟨j, hj, h⟩ := tyK_spec h
    have hj := hτ _ _ hj
    obtain ⟨cs, hf, hk⟩ := lay_spec (place := fun i => some (i * j.size, j.size)) (fun i k hk => ⟨_, rfl, hk⟩) _ _ _ h
    refine Val.mk _ (fun w => ?_) hk
    simp only [execOp, ho, Instr.build, Sem.run_bind, zeroOf hi, undP hi hd rfl, Result.andThen_ok, szOf hj, cellsL_eq, hps, hf, Sem.run_pure]
  · exact h.elim

theorem pure_slice (hτ : TysOk P τ) {t : TypeId} {x : Operand} {lo hi mx : Option Operand} (ho : o.op = .slice t x lo hi mx) (h : pureC τ o l K F) : Val P o l K F := by
  simp only [pureC, ho, evK_eq, oevK_eq] at h
  obtain ⟨i, hi', h⟩ := tyK_spec h
  have hi' := hτ _ _ hi'
  split at h
  · rename_i s hd hx _
    obtain ⟨a, b, h1, h2, h3, h4, hK⟩ := h.go
    refine Val.mk _ (fun w => ?_) hK
    simp only [execOp, ho, Instr.sliceAt, Sem.run_bind, undP hi' hd rfl, Result.andThen_ok, Instr.slice, hx, Option.map_none]
    simp only [Option.isSome_none, Bool.false_eq_true, if_false, Sem.run_bind, sliceBounds_run (isS := false) h1 h2 h3 h4, Result.andThen_ok, Sem.run_pure]
  · rename_i e base len cap hd hx _
    obtain ⟨j, hj, h⟩ := tyK_spec h
    have hj := hτ _ _ hj
    obtain ⟨a, b, h1, h2, h3, h4, hK⟩ := h.go
    refine Val.mk _ (fun w => ?_) hK
    simp only [execOp, ho, Instr.sliceAt, Sem.run_bind, undP hi' hd rfl, Result.andThen_ok, Instr.slice, hx, Option.map_none]
    simp only [sliceBounds_run (isS := true) h1 h2 h3 h4, Result.andThen_ok, Sem.run_pure, szOf hj]
  · rename_i n e a hd hx _
    obtain ⟨j, hj, h⟩ := tyK_spec h
    have hj := hτ _ _ hj
    obtain ⟨c, b, h1, h2, h3, h4, hK⟩ := h.go
    refine Val.mk _ (fun w => ?_) hK
    simp only [execOp, ho, Instr.sliceAt, Sem.run_bind, undP hi' hd rfl, Result.andThen_ok, hx, Option.map_none, Instr.sureAddr, Sem.run_pure]
    simp only [sliceBounds_run (isS := false) h1 h2 h3 h4, Result.andThen_ok, szOf hj]
    split <;> rfl
  · exact h.elim


theorem builtin_val (hτ : TysOk P τ) {b : Builtin} {ts : Array TypeId} {ty : TypeId} {cs : Array Bool} {vs : List Value} (h : builtinC τ b ts ty vs K F) :
    (∃ v, (∀ w, (builtin b ts ty cs vs.toArray).run P w = .ok (.value v) w) ∧ K v) ∨
    (∃ s : Sem Value, (∀ w, (builtin b ts ty cs vs.toArray).run P w = (s.run P w).andThen fun v w => .ok (.value v) w) ∧ F s) := by
  have val : ∀ (s : Sem Value) (v : Value), builtin b ts ty cs vs.toArray = (do pure (.value (← s))) → (∀ w, s.run P w = .ok v w) → K v →
      (∃ v, (∀ w, (builtin b ts ty cs vs.toArray).run P w = .ok (.value v) w) ∧ K v) ∨
      (∃ s : Sem Value, (∀ w, (builtin b ts ty cs vs.toArray).run P w = (s.run P w).andThen fun v w => .ok (.value v) w) ∧ F s) := by
    intro s v hb hr hk
    exact .inl ⟨v, fun w => by rw [hb, Sem.run_bind, hr]; rfl, hk⟩
  have sem : ∀ (s : Sem Value), builtin b ts ty cs vs.toArray = (do pure (.value (← s))) → F s →
      (∃ v, (∀ w, (builtin b ts ty cs vs.toArray).run P w = .ok (.value v) w) ∧ K v) ∨
      (∃ s : Sem Value, (∀ w, (builtin b ts ty cs vs.toArray).run P w = (s.run P w).andThen fun v w => .ok (.value v) w) ∧ F s) := by
    intro s hb hf
    exact .inr ⟨s, fun w => by rw [hb, Sem.run_bind]; rfl, hf⟩
  cases b <;> simp only [builtinC] at h <;> try exact h.elim
  case append => exact sem _ rfl h
  case cap => exact sem _ rfl h
  case clear => exact sem _ rfl h
  case complex => exact sem _ rfl h
  case copy => exact sem _ rfl h
  case delete => exact sem _ rfl h
  case imag => exact sem _ rfl h
  case real => exact sem _ rfl h
  case unsafeString => exact sem _ rfl h
  case unsafeStringData => exact sem _ rfl h
  case unsafeSlice => exact sem _ rfl h
  case unsafeSliceData => exact sem _ rfl h
  case len =>
    unfold lenC at h
    split at h
    · rename_i t r v
      obtain ⟨i, hi, h⟩ := tyK_spec h
      have hi := hτ _ _ hi
      split at h
      · rename_i s hd _
        exact val _ _ rfl (fun w => by simp [Builtin.len_, undP hi hd rfl, goInt]) h
      · rename_i e a n c hd _
        exact val _ _ rfl (fun w => by simp [Builtin.len_, undP hi hd rfl, goInt]) h
      · rename_i n e v hd _
        exact val _ _ rfl (fun w => by simp [Builtin.len_, undP hi hd rfl, goInt]) h
      · exact sem _ rfl h
    · exact h.elim
  case min =>
    split at h
    · rename_i k a vs
      obtain ⟨v, hv, hk⟩ := foldInt_spec (op := .min) (ts := ts) (ty := ty) (P := P) (g := Builtin.min2) (fun k' a b => min2_int k k' a b) vs a _ h
      exact val _ _ rfl (fun w => by simpa [Builtin.min_] using hv w) hk
    · exact h.elim
  case max =>
    split at h
    · rename_i k a vs
      obtain ⟨v, hv, hk⟩ := foldInt_spec (op := .max) (ts := ts) (ty := ty) (P := P) (g := Builtin.max2) (fun k' a b => max2_int k k' a b) vs a _ h
      exact val _ _ rfl (fun w => by simpa [Builtin.max_] using hv w) hk
    · exact h.elim

theorem exec_builtin {b : Builtin} {as : Array Operand} {ts : Array TypeId} (ho : o.op = .call { callee := .builtin b, args := as, argTypes := ts }) (w : World) :
    (execOp (evl l) o).run P w = (builtin b ts o.type (as.map fun | .const _ => true | _ => false) (as.toList.map (evl l)).toArray).run P w := by
  have hargs : as.map (evl l) = (as.toList.map (evl l)).toArray := by apply Array.ext'; simp
  simp only [execOp, ho, Sem.run_bind, resolve, Sem.run_pure, Result.andThen_ok, invoke, hargs]
  rfl
theorem pure_builtin (hτ : TysOk P τ) {b : Builtin} {as : Array Operand} {ts : Array TypeId} (ho : o.op = .call { callee := .builtin b, args := as, argTypes := ts })
    (h : pureC τ o l K F) : Val P o l K F := by
  simp only [pureC, ho, evsK_eq] at h
  rcases builtin_val hτ (cs := as.map fun | .const _ => true | _ => false) h with ⟨v, hv, hk⟩ | ⟨s, hs, hf⟩
  · exact .inl ⟨v, fun w => by rw [exec_builtin ho]; exact hv w, hk⟩
  · exact .inr ⟨s, fun w => by rw [exec_builtin ho]; exact hs w, hf⟩

theorem pure_val (hτ : TysOk P τ) (h : pureC τ o l K F) : Val P o l K F := by
  cases ho : o.op with
  | move x => exact pure_move ho h
  | assign x => exact pure_assign ho h
  | pick c a b => exact pure_pick ho h
  | build t ps => exact pure_build hτ ho h
  | nilCheck x => exact pure_nil ho h
  | binOp op t x y t2 => exact pure_bin hτ ho h
  | unOp op t x => exact pure_un ho h
  | convert s d x => exact pure_conv hτ ho h
  | makeInterface t x => exact pure_makeInterface hτ ho h
  | makeFunc f a b => exact pure_makeFunc ho h
  | slice t x lo hi mx => exact pure_slice hτ ho h
  | fieldAddr t x f => exact pure_fieldAddr hτ ho h
  | field t x f => exact pure_field hτ ho h
  | indexAddr t x i => exact pure_indexAddr hτ ho h
  | index t x i => exact pure_index hτ ho h
  | extract t i => exact pure_extract ho h
  | lookup t x i ok =>
    simp only [pureC, ho, evK_eq] at h
    exact Val.sem (fun w => by simp only [execOp, ho, Sem.run_bind]; rfl) h
  | range t x =>
    simp only [pureC, ho, evK_eq] at h
    exact Val.sem (fun w => by simp only [execOp, ho, Sem.run_bind]; rfl) h
  | next it s =>
    simp only [pureC, ho, evK_eq] at h
    exact Val.sem (fun w => by simp only [execOp, ho, Sem.run_bind]; rfl) h
  | typeAssert x t a ok =>
    simp only [pureC, ho, evK_eq] at h
    exact Val.sem (fun w => by simp only [execOp, ho, Sem.run_bind]; rfl) h
  | call c =>
    obtain ⟨f, as, ts⟩ := c
    cases f with
    | builtin b => exact pure_builtin hτ ho h
    | value f => simp only [pureC, ho] at h
    | invoke r m => simp only [pureC, ho] at h
  | _ => simp only [pureC, ho] at h
end

variable {L : List HP} {K : Value → List HP → Prop} {X : List PanicEntry → List HP → Prop}
theorem step_of_val (h : Val P o l (fun v => K v L) (fun s => Sm P s L K)) : Step P o l L K X := by
  rcases h with ⟨v, hv, hk⟩ | ⟨s, hs, hk⟩
  · exact step_val v hv hk
  · exact step_sem hs hk
/-- a new row of cells is laid -/
def PushV (P : Program) (o : Oper) (l : Env) (L : List HP) (K : Value → List HP → Prop) : Prop :=
  ∃ (s : Nat → Value) (t : TypeId) (cs : List Value), (∀ w, (execOp (evl l) o).run P w = .ok (.value (s w.heap.size)) (w.alloc (.cells cs.toArray t))) ∧ Nc t cs L fun b L' => K (s b) L'
theorem step_new {t : TypeId} {cs : List Value} {s : Nat → Value} 
    (h : ∀ w, (execOp (evl l) o).run P w = .ok (.value (s w.heap.size)) (w.alloc (.cells cs.toArray t)))
    (k : Nc t cs L fun b L' => K (s b) L') : Step P o l L K X := by
  intro w hs
  rw [h]
  exact ⟨_, hs.alloc _, k.go w.heap.size⟩

theorem push_alloc (hτ : TysOk P τ) {t : TypeId} (ho : o.op = .alloc t) (h : opC P τ o l L K X) : PushV P o l L K := by
  simp only [opC, ho] at h
  obtain ⟨i, hi, h⟩ := tyK_spec h
  have hi := hτ _ _ hi
  rw [cellsK_eq] at h
  exact ⟨fun b => .pointer (some ⟨b, 0, none⟩), _, _, (fun w => by
    simp [execOp, ho, Instr.alloc, zeroOf hi, newVar, newRow, cellsL_eq]), h⟩
theorem push_box {t : TypeId} {x : Operand} (ho : o.op = .box t x) (h : opC P τ o l L K X) : PushV P o l L K := by
  simp only [opC, ho, evK_eq, cellsK_eq] at h
  exact ⟨fun b => .pointer (some ⟨b, 0, none⟩), _, _, (fun w => by
    simp [execOp, ho, Instr.box, newVar, newRow, cellsL_eq]), h⟩

theorem opC_load (hτ : TysOk P τ) {t : TypeId} {x : Operand} (ho : o.op = .load t x) (h : opC P τ o l L K X) : Step P o l L K X := by
  simp only [opC, ho, evK_eq] at h
  obtain ⟨i, hi, h⟩ := tyK_spec h
  have hi := hτ _ _ hi
  cases hx : evl l x <;> rw [hx] at h <;> try exact h.elim
  rename_i a
  cases a with
  | none => exact h.elim
  | some a =>
    intro w s
    cases hg : aggD i.d with
    | true =>
      simp only [hg, cond_true] at h
      obtain ⟨vs, hlen, hv, k⟩ := h.go
      rw [forceL_eq] at k
      have := run_loadCells (P := P) (w := w) (a := a) vs (hv w s)
      rw [hlen] at this
      simp only [execOp, ho, Instr.loadAt, Instr.sureAddr, hx, loadVar, Sem.run_bind, Sem.run_pure, Result.andThen_ok, aggOf hi, hg, if_true, szOf hi, this]
      exact ⟨L, s, k⟩
    | false =>
      simp only [hg, cond_false] at h
      obtain ⟨v, hv, k⟩ := h.go
      simp only [execOp, ho, Instr.loadAt, Instr.sureAddr, hx, loadVar, Sem.run_bind, Sem.run_pure, Result.andThen_ok, aggOf hi, hg, Bool.false_eq_true, if_false, run_load, hv w s]
      exact ⟨L, s, k⟩

theorem opC_store (hτ : TysOk P τ) {t : TypeId} {x y : Operand} (ho : o.op = .store t x y) (h : opC P τ o l L K X) : Step P o l L K X := by
  simp only [opC, ho, evK_eq] at h
  obtain ⟨i, hi, h⟩ := tyK_spec h
  have hi := hτ _ _ hi
  cases hx : evl l x <;> rw [hx] at h <;> try exact h.elim
  rename_i a
  cases a with
  | none => exact h.elim
  | some a =>
    simp only [cellsK_eq] at h
    intro w s
    obtain ⟨L', hr, k⟩ := h.go.go
    obtain ⟨w', hw, s'⟩ := hr w s
    have hsz : (cellsL (evl l y)).toArray.size = i.size := by simpa using h.is
    simp only [execOp, ho, Instr.storeAt, Instr.sureAddr, hx, storeVar, Sem.run_bind, Sem.run_pure, Result.andThen_ok, szOf hi, cellsL_eq, hsz, ne_eq, not_true_eq_false, if_false, hw]
    exact ⟨L', s', k⟩

theorem opC_makeMap (hτ : TysOk P τ) {t : TypeId} {r : Option Operand} (ho : o.op = .makeMap t r) (h : opC P τ o l L K X) : Step P o l L K X := by
  simp only [opC, ho, evK_eq] at h
  cases hx : evl l (r.getD (.const (.int .i64 0))) <;> rw [hx] at h <;> try exact h.elim
  obtain ⟨i, hi, h⟩ := tyK_spec h
  have hi := hτ _ _ hi
  cases hd : i.d <;> rw [hd] at h <;> try exact h.elim
  rename_i k n key elem
  intro w s
  have : (execOp (evl l) o).run P w = .ok (.value (.map (some w.heap.size))) (w.alloc (.map #[] 0)) := by
    cases r with
    | none => simp [execOp, ho, Instr.makeMap]
    | some x =>
      simp only [Option.getD_some] at hx
      simp [execOp, ho, Instr.makeMap, hx, undP hi hd rfl, asInt, asIntOf]
  rw [this]
  obtain ⟨B, hB, k⟩ := h.go w.heap.size
  exact ⟨_, hB _ (s.alloc _), k⟩


theorem opC_makeSlice (hτ : TysOk P τ) {t : TypeId} {x y : Operand} (ho : o.op = .makeSlice t x y) (h : opC P τ o l L K X) : Step P o l L K X := by
  simp only [opC, ho, evK_eq] at h
  obtain ⟨i, hi, h⟩ := tyK_spec h
  have hi := hτ _ _ hi
  split at h
  · rename_i e k n k' c hd hx hy
    obtain ⟨j, hj0, h⟩ := tyK_spec h
    have hj := hτ _ _ hj0
    have hzl := cells_len hj
    obtain ⟨h0, h1, h2, h3, h⟩ := h.go
    intro w s
    obtain ⟨f, hf, hs, hb, hzf⟩ := tinfo hj w
    have wn : IntKind.i64.wrap n = n := by rw [IntKind.wrap_i64]; omega
    have wc : IntKind.i64.wrap c = c := by rw [IntKind.wrap_i64]; omega
    obtain ⟨c', rfl⟩ := Int.eq_ofNat_of_zero_le (show 0 ≤ c by omega)
    rw [← hb] at h3
    have : (execOp (evl l) o).run P w = .ok (.value (.slice (some ⟨w.heap.size, 0, none⟩) n.toNat c')) (w.alloc (.cells ((List.replicate c' (cellsL j.zero)).flatten).toArray e)) := by
      simp only [execOp, ho, Instr.makeSlice, Sem.run_bind, undP hi hd rfl, hx, hy, asInt, asIntOf, Result.andThen_ok, Sem.run_pure, hf, wn, wc, Sem.run_ite]
      rw [if_neg (by simp; omega)]
      simp only [run_askRoom, Result.andThen_ok, szOf hj, Int.toNat_natCast]
      by_cases hn : c' * j.size = 0
      · have he : (List.replicate c' (cellsL j.zero)).flatten = [] := by
          rw [← List.length_eq_zero_iff, List.length_flatten]
          simp [hzl, hn]
        simp [hn, newRow, he, Array.range_zero']
      · have := zero_row (cellsL j.zero) c'
        rw [hzl] at this
        simp [hn, newRow, zeroOf hj, cellsL_eq]
        simp at this
        rw [this]
    rw [this]
    obtain ⟨B, hB, hk⟩ := h w.heap.size
    exact ⟨_, hB _ (s.alloc _), hk⟩
  · exact h.elim

theorem push_buildSlice (hτ : TysOk P τ) {t : TypeId} {n : Nat} {ps : Array (Nat × Operand)} (ho : o.op = .buildSlice t n ps) (h : opC P τ o l L K X) : PushV P o l L K := by
  simp only [opC, ho, partsK_eq] at h
  obtain ⟨i, hi, h⟩ := tyK_spec h
  have hi := hτ _ _ hi
  have hps : (ps.map fun x => (x.1, evl l x.2)).toList = ps.toList.map fun p => (p.1, evl l p.2) := by simp
  split at h
  · rename_i e hd
    obtain ⟨j, hj, h⟩ := tyK_spec h
    have hj := hτ _ _ hj
    simp only [cond_eq_ite, Bool.and_eq_true, Nat.ble_eq, forceL_eq, Bool.not_eq_true'] at h
    split at h
    · rename_i hc
      obtain ⟨⟨hc1, hc2⟩, hc3⟩ := hc
      have hc3 := Nat.eq_of_beq_eq_true hc3
      have hc2 : j.size ≠ 0 := fun he => by rw [he] at hc2; simp at hc2
      obtain ⟨cs, hf, hk⟩ := lay_spec (place := fun i => some (i * j.size, j.size)) (fun i k hk => ⟨_, rfl, hk⟩) _ _ _ h
      refine ⟨fun b => .slice (some ⟨b, 0, none⟩) n n, _, _, (fun w => ?_), hk⟩
      have hz := zero_row (cellsL j.zero) n
      rw [hc3] at hz
      simp only [execOp, ho, Instr.buildSlice, Sem.run_bind, undP hi hd rfl, Result.andThen_ok, szOf hj, Sem.run_ite]
      rw [if_neg (by omega)]
      by_cases hn : n * j.size = 0
      · have hn0 : n = 0 := by
          rcases Nat.mul_eq_zero.1 hn with h0 | h0
          · exact h0
          · exact absurd h0 hc2
        subst hn0
        simp only [List.replicate_zero, List.flatten_nil] at hf
        simp only [Nat.zero_mul, if_true, Sem.run_pure, Result.andThen_ok, Array.range_zero', Array.map_empty, hps]
        simp only [hf, newRow, Sem.run_bind, run_newObj, Result.andThen_ok, Sem.run_pure, World.alloc_eq]
      · simp only [hn, if_false, zeroOf hj, Sem.run_pure, Result.andThen_ok, cellsL_eq, hps]
        simp only [List.size_toArray] at hz ⊢
        rw [hc3] at hz ⊢
        rw [hz]
        simp only [hf, newRow, Sem.run_bind, run_newObj, Result.andThen_ok, Sem.run_pure, World.alloc_eq]
    · exact h.elim
  · exact h.elim

theorem opC_panic {x : Operand} (ho : o.op = .panic x) (h : opC P τ o l L K X) : Step P o l L K X := by
  simp only [opC, ho, evK_eq] at h
  split at h
  · rename_i t v hx
    intro w s
    simp only [execOp, ho, Sem.run_bind, hx, Instr.panic, run_goPanic, Result.andThen_halt]
    exact ⟨L, s, h⟩
  · exact h.elim

theorem opC_callV {f : Operand} {as : Array Operand} {ts : Array TypeId} (ho : o.op = .call { callee := .value f, args := as, argTypes := ts }) (h : opC P τ o l L K X) : Step P o l L K X := by
  simp only [opC, ho] at h
  unfold callC at h
  simp only [evK_eq, evsK_eq] at h
  split at h
  · rename_i g first captured hf
    rw [forceL_eq] at h
    have con := h.go
    intro w s
    obtain ⟨fn, hfn, hn, hb⟩ := con.ent
    have hrun := con.run w s
    have he : (execOp (evl l) o).run P w = .ok (.enter g (first.toList ++ as.toList.map (evl l) ++ captured.toList).toArray) w := by
      simp only [execOp, ho, Sem.run_bind, resolve, hf, Deferred.ofValue, Sem.run_pure, Result.andThen_ok, invoke, callFunc, run_program, hfn, hn, hb, Bool.false_eq_true, if_false]
      congr 2
      apply Array.ext'
      simp
    rw [he]
    exact hrun
  · exact h.go
theorem opC_panicB {as : Array Operand} {ts : Array TypeId} (ho : o.op = .call { callee := .builtin .panic, args := as, argTypes := ts }) (h : opC P τ o l L K X) : Step P o l L K X := by
  simp only [opC, ho, evsK_eq] at h
  split at h
  · rename_i t v r hv
    intro w s
    have : (execOp (evl l) o).run P w = .halt (.panic (.iface t v)) w := by
      rw [exec_builtin ho, hv]
      simp [builtin, Instr.panic]
    rw [this]
    exact ⟨L, s, h⟩
  · exact h.elim
theorem opC_builtin (hτ : TysOk P τ) {b : Builtin} {as : Array Operand} {ts : Array TypeId} (hb : b ≠ .panic) (ho : o.op = .call { callee := .builtin b, args := as, argTypes := ts }) (h : opC P τ o l L K X) : Step P o l L K X := by
  have h' : builtinC τ b ts o.type (as.toList.map (evl l)) (fun v => K v L) (fun s => Sm P s L K) := by
    cases b <;> first | exact absurd rfl hb | (simp only [opC, ho, evsK_eq] at h; exact h)
  refine step_of_val ?_
  rcases builtin_val hτ (cs := as.map fun | .const _ => true | _ => false) h' with ⟨v, hv, hk⟩ | ⟨s, hs, hf⟩
  · exact .inl ⟨v, fun w => by rw [exec_builtin ho]; exact hv w, hk⟩
  · exact .inr ⟨s, fun w => by rw [exec_builtin ho]; exact hs w, hf⟩

theorem step_of_push (h : PushV P o l L K) : Step P o l L K X := by
  obtain ⟨s, t, cs, hr, k⟩ := h
  exact step_new (s := s) hr k
theorem opC_step (hτ : TysOk P τ) (h : opC P τ o l L K X) : Step P o l L K X := by
  have pu : opC P τ o l L K X = pureC τ o l (fun v => K v L) (fun s => Sm P s L K) → Step P o l L K X := fun he => step_of_val (pure_val hτ (he ▸ h))
  cases ho : o.op with
  | alloc t => exact step_of_push (push_alloc hτ ho h)
  | box t v => exact step_of_push (push_box ho h)
  | buildSlice t n ps => exact step_of_push (push_buildSlice hτ ho h)
  | load t a => exact opC_load hτ ho h
  | store t a v => exact opC_store hτ ho h
  | makeMap t r => exact opC_makeMap hτ ho h
  | makeSlice t a b => exact opC_makeSlice hτ ho h
  | mapUpdate t m k x =>
    simp only [opC, ho, evK_eq] at h
    exact step_semu (fun w => by simp only [execOp, ho, Sem.run_bind]; rfl) h
  | panic x => exact opC_panic ho h
  | call c =>
    obtain ⟨f, as, ts⟩ := c
    cases f with
    | builtin b =>
      by_cases hb : b = .panic
      · subst hb; exact opC_panicB ho h
      · exact opC_builtin hτ hb ho h
    | value f => exact opC_callV ho h
    | invoke r m => simp only [opC, ho] at h; exact h.go
  | go _ | defer _ | send _ _ | recv _ _ _ | select _ _ | ready _ | waits _ | insert _ _ _ _ | mapEntry _ _ _ | entryStore _ _ _ _ | entry _ | makeChan _ _ | sliceToArrayPointer _ _ => simp only [opC, ho] at h; exact h.go
  | _ => exact pu (by simp only [opC, ho])
end Go.Eng
