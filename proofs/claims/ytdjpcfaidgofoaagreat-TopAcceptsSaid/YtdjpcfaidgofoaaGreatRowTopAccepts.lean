/-
  The law TopAccepts of the seat: it returns true for every input, and each argument reads behind the call as it read before. No condition.
-/
import Derived.Test.YtdjpcfaidgofoaaGreatEngRow
import Derived.Test.YtdjpcfaidgofoaaGreatEngList
import Derived.ChangeStays
import Derived.Test.YtdjpcfaidgofoaaGreatRows
set_option linter.all false
namespace Go.Eng
open Go.ChangeShapes Go.WideShapes Go.RowKit
variable {P : Program}
set_option linter.unusedVariables false

/-- elements of slices have cells -/
def sizedB (P : Program) : Bool := (List.range P.types.size).all fun t => match P.underlying t with
  | some (.slice e) => decide (0 < P.cellsOf e)
  | _ => true
theorem sized_of (h : sizedB P = true) {t e : TypeId} (ht : t < P.types.size) (hu : P.underlying t = some (.slice e)) : 0 < P.cellsOf e := by
  unfold sizedB at h
  rw [List.all_eq_true] at h
  have := h t (List.mem_range.2 ht)
  rw [hu] at this
  simpa using this

section
variable {H : Type} {enc : TypeId × Value → H} {W W' : World} {sp : Nat → Bool}
theorem args_stay (hl : laidOutB P = true) (hm : mapsRowed P = true) (hz : sizedB P = true) (hst : ∀ b, b < W.heap.size → W'.heap[b]? = W.heap[b]?) :
    ∀ {ts : List TypeId} {vs : List Value} {ds : List (DataW H)} {ps : List MemPlace}, DataW.TrodAll enc P W 0 (fun _ => true) true ts vs ds ps →
      (∀ t ∈ ts, t < P.types.size) → (∀ p ∈ ps, sp p.block = true) → DataW.TrodAll enc P W' 0 sp true ts vs ds ps
  | [], [], [], _, h, _, _ => h
  | t :: ts, v :: vs, d :: ds, _, ⟨a, b, ⟨n, h1⟩, h2, e⟩, ht, hs => by
    subst e
    refine ⟨a, b, ⟨n, ?_⟩, args_stay hl hm hz hst h2 (fun t h => ht t (List.mem_cons_of_mem _ h)) (fun p hp => hs p (List.mem_append_right _ hp)), rfl⟩
    refine DataW.trod_stays (kids_rows hl hm) (fun ht hu => sized_of hz ht hu) (fun h => by cases h) (ht t List.mem_cons_self) h1 (fun p hp => ?_) (fun p hp => hs p (List.mem_append_left _ hp))
    have hlt := DataW.trod_lt _ _ _ _ h1 p hp
    cases p with
    | cell b off =>
      have hlt : b < W.heap.size := hlt
      show W'.cell? _ = W.cell? _
      simp only [World.cell?]
      rw [hst b hlt]
    | map b => exact hst b hlt
end

/-- what cells of a type hold -/
structure Opn (P : Program) (W : World) (t : TypeId) {A : Type} (val : A → List Value) (inv : A → Prop) : Prop where
  go : ∀ {H : Type} {enc : TypeId × Value → H} {sp : Nat → Bool} {held : Bool} {fuel : Nat} {cs : List Value} {x : DataW H × List MemPlace},
    DataW.trod enc P W 0 sp held fuel t cs = some x → ∃ y, cs = val y ∧ inv y
variable {W : World} {t : TypeId} {A B : Type} {val : A → List Value} {inv : A → Prop} {val' : B → List Value} {inv' : B → Prop}
theorem Opn.map (o : Opn P W t val inv) (f : A → B) (hv : ∀ a, val a = val' (f a)) (hi : ∀ a, inv a → inv' (f a)) : Opn P W t val' inv' :=
  ⟨fun h => by obtain ⟨y, rfl, hy⟩ := o.go h; exact ⟨f y, hv y, hi y hy⟩⟩
theorem op_int {k : IntKind} (ht : P.underlying t = some (.int k)) : Opn P W t (fun n : Int => [.int k n]) (fun n => (Lit.int k n).wf = true) :=
  ⟨fun h => by obtain ⟨n, hc, _, hw⟩ := DataW.trod_int ht h; exact ⟨n, hc, hw⟩⟩
theorem op_i64 (ht : P.underlying t = some (.int .i64)) : Opn P W t (fun n : Int => [.int .i64 n]) (fun n => -9223372036854775808 ≤ n ∧ n ≤ 9223372036854775807) :=
  (op_int ht).map id (fun _ => rfl) fun n h => by simpa [Lit.wf, IntKind.min, IntKind.max, IntKind.signed, IntKind.bits] using h
theorem op_u8 (ht : P.underlying t = some (.int .u8)) : Opn P W t (fun n : Int => [.int .u8 n]) (fun n => 0 ≤ n ∧ n ≤ 255) :=
  (op_int ht).map id (fun _ => rfl) fun n h => by simpa [Lit.wf, IntKind.min, IntKind.max, IntKind.signed, IntKind.bits] using h
theorem op_u16 (ht : P.underlying t = some (.int .u16)) : Opn P W t (fun n : Int => [.int .u16 n]) (fun n => 0 ≤ n ∧ n ≤ 65535) :=
  (op_int ht).map id (fun _ => rfl) fun n h => by simpa [Lit.wf, IntKind.min, IntKind.max, IntKind.signed, IntKind.bits] using h
theorem op_bool (ht : P.underlying t = some .bool) : Opn P W t (fun b : Bool => [.bool b]) (fun _ => True) :=
  ⟨fun h => by obtain ⟨b, hc, _⟩ := DataW.trod_bool ht h; exact ⟨b, hc, trivial⟩⟩
theorem op_string (ht : P.underlying t = some .string) : Opn P W t (fun s : ByteArray => [.string s]) (fun s => s.size ≤ 9223372036854775807) :=
  ⟨fun h => by obtain ⟨s, hc, _, hs⟩ := DataW.trod_string ht h; exact ⟨s, hc, hs⟩⟩

/-- fields, from a place on -/
structure OpF (P : Program) (W : World) (fs : List Field) (o : Nat) {A : Type} (val : A → List Value) (inv : A → Prop) (sz : Nat) : Prop where
  go : ∀ {H : Type} {enc : TypeId × Value → H} {sp : Nat → Bool} {held : Bool} {n : Nat} {cs : List Value}, cs.length = o + sz →
    (∀ (i : Nat) (f : Field), fs[i]? = some f → ∃ x, DataW.trod enc P W 0 sp held n f.type ((cs.drop f.offset).take (P.cellsOf f.type)) = some x) → ∃ y, cs.drop o = val y ∧ inv y
theorem opF_nil {o : Nat} : OpF P W [] o (fun _ : Unit => []) (fun _ => True) 0 :=
  ⟨fun hl _ => ⟨(), List.drop_of_length_le (by omega), trivial⟩⟩
theorem opF_cons {f : Field} {fs : List Field} {o s sz : Nat} (h : Opn P W f.type val inv) (ho : f.offset = o) (hs : P.cellsOf f.type = s) (r : OpF P W fs (o + s) val' inv' sz) :
    OpF P W (f :: fs) o (fun y : A × B => val y.1 ++ val' y.2) (fun y => inv y.1 ∧ inv' y.2) (s + sz) :=
  ⟨fun {H enc sp held n cs} hl hf => by
    obtain ⟨x, hx⟩ := hf 0 f rfl
    rw [ho, hs] at hx
    obtain ⟨y, hy, iy⟩ := h.go hx
    obtain ⟨z, hz, iz⟩ := r.go (enc := enc) (sp := sp) (held := held) (n := n) (cs := cs) (by omega) (fun i f hi => hf (i + 1) f (by simpa using hi))
    refine ⟨(y, z), ?_, iy, iz⟩
    show cs.drop o = val y ++ val' z
    rw [← hy, ← hz, ← List.drop_drop, List.take_append_drop]⟩
theorem op_struct {fs : Array Field} {sz : Nat} (hu : P.underlying t = some (.struct fs)) (hf : OpF P W fs.toList 0 val inv sz) (hc : P.cellsOf t = sz) : Opn P W t val inv :=
  ⟨fun h => by
    obtain ⟨xs, n, _, _, hl, hlen, hg⟩ := DataW.trod_struct hu h
    obtain ⟨y, hy, iy⟩ := hf.go (n := n) (by rw [hl, hc]; omega) (fun i f hi => by
      have hi' : fs[i]? = some f := by simpa using hi
      have hlt : i < fs.size := (Array.getElem?_eq_some_iff.1 hi').1
      exact ⟨xs[i]'(by omega), by rw [hg i f hi', List.getElem?_eq_getElem (by omega)]⟩)
    exact ⟨y, by simpa using hy, iy⟩⟩
theorem op_array {n s : Nat} {e : TypeId} (hu : P.underlying t = some (.array n e)) (h : Opn P W e val inv) (hs : P.cellsOf e = s) (hc : P.cellsOf t = n * s) :
    Opn P W t (fun ys : List A => ys.flatMap val) (fun ys => ys.length = n ∧ ∀ y ∈ ys, inv y) :=
  ⟨fun {H enc sp held fuel cs x} hx => by
    obtain ⟨xs, m, _, _, hl, hlen, hg⟩ := DataW.trod_array hu hx
    rw [hc] at hl
    rw [hs] at hg
    have key : ∀ k, k ≤ n → ∃ ys : List A, ys.length = k ∧ (∀ y ∈ ys, inv y) ∧ cs.take (k * s) = ys.flatMap val := by
      intro k
      induction k with
      | zero => exact fun _ => ⟨[], rfl, by simp, by simp⟩
      | succ k ih =>
        intro hk
        obtain ⟨ys, h1, h2, h3⟩ := ih (by omega)
        have hk' := hg k (by omega)
        rw [List.getElem?_eq_getElem (by omega)] at hk'
        obtain ⟨y, hy, iy⟩ := h.go hk'
        refine ⟨ys ++ [y], by simp [h1], fun z hz => ?_, ?_⟩
        · rcases List.mem_append.1 hz with hz | hz
          · exact h2 z hz
          · rw [List.mem_singleton] at hz; subst hz; exact iy
        · rw [List.flatMap_append, ← h3, Nat.add_mul, Nat.one_mul, List.take_add]
          simp [hy]
    obtain ⟨ys, h1, h2, h3⟩ := key n (Nat.le_refl n)
    exact ⟨ys, by rw [← h3, List.take_of_length_le (by omega)], h1, h2⟩⟩

theorem old_cell {w : World} {L : List HP} (s : Sat w L) (i : Nat) (hi : L[i]? = some (old W)) {a : Addr} {v : Value} (h : W.cell? a = some v) : w.cell? a = some v := by
  cases hb : W.heap[a.block]? with
  | none => simp [World.cell?, hb] at h
  | some o =>
    have := s.old i hi hb
    simp only [World.cell?, hb, this] at h ⊢
    exact h
theorem op_slice {α : Type} {E : Enc α} {inv : α → Prop} {e : TypeId} (hu : P.underlying t = some (.slice e)) (h : Opn P W e E.e inv) (hs : P.cellsOf e = E.sz) :
    Opn P W t (fun y : Option Addr × Nat × List α => [.slice y.1 y.2.2.length y.2.1]) (fun y => y.2.2.length ≤ y.2.1 ∧ y.2.1 ≤ 9223372036854775807 ∧ Rd E [old W] y.1 y.2.2 ∧ ∀ z ∈ y.2.2, inv z) :=
  ⟨fun {H enc sp held fuel cs x} hx => by
    rcases DataW.trod_slice hu hx with ⟨rfl, _⟩ | ⟨a, len, cap, elems, rest, n, _, rfl, _, _, hle, hmax, hel, hat, _, _⟩
    · exact ⟨(none, 0, []), rfl, Nat.le_refl _, by simp, Rd.nil, by simp⟩
    · have key : ∀ k, k ≤ len → ∃ xs : List α, xs.length = k ∧ (∀ z ∈ xs, inv z) ∧ ∀ i, i < k → W.cells? 0 (a.add (i * E.sz)) E.sz = some (E.e (xs.getD i E.d)) := by
        intro k
        induction k with
        | zero => exact fun _ => ⟨[], rfl, by simp, fun i hi => by omega⟩
        | succ k ih =>
          intro hk
          obtain ⟨xs, h1, h2, h3⟩ := ih (by omega)
          have hk' := hat k (by omega)
          rw [List.getElem?_eq_getElem (by omega), hs] at hk'
          obtain ⟨cs, hc, ht⟩ := Option.bind_eq_some_iff.1 hk'
          obtain ⟨y, hy, iy⟩ := h.go ht
          refine ⟨xs ++ [y], by simp [h1], fun z hz => ?_, fun i hi => ?_⟩
          · rcases List.mem_append.1 hz with hz | hz
            · exact h2 z hz
            · rw [List.mem_singleton] at hz; subst hz; exact iy
          · by_cases hik : i < k
            · rw [h3 i hik]
              congr 2
              simp [List.getD, List.getElem?_append_left, h1, hik]
            · have : i = k := by omega
              subst this
              rw [hc, hy]
              congr 2
              simp [List.getD, ← h1]
      obtain ⟨xs, h1, h2, h3⟩ := key len (Nat.le_refl len)
      have had : Ad (some a) xs.length := by
        intro h0
        have h4 := h3 0 (by omega)
        obtain ⟨_, hcl, hcell⟩ := World.cells?_some h4
        have g0 := hcell 0 E.pos
        have hlt : 0 < (E.e (xs.getD 0 E.d)).length := by rw [E.len]; exact E.pos
        rw [List.getElem?_eq_getElem hlt] at g0
        have hsp : a.spot = none := by simpa [Addr.add] using World.cell?_spot g0
        obtain ⟨b, o, sp⟩ := a
        simp only at hsp
        subst hsp
        rfl
      refine ⟨(some a, cap, xs), by rw [h1], by simpa [h1] using hle, hmax, ⟨had, fun w s j v hv => ?_⟩, h2⟩
      have hj : j < xs.length * E.sz := by
        rw [← E.flat_len]
        exact (List.getElem?_eq_some_iff.1 hv).1
      have hpos := E.pos
      have hq : j / E.sz < xs.length := (Nat.div_lt_iff_lt_mul hpos).2 hj
      have hr : j % E.sz < E.sz := Nat.mod_lt _ hpos
      have hdm : j / E.sz * E.sz + j % E.sz = j := by rw [Nat.mul_comm]; exact Nat.div_add_mod j E.sz
      have hf := E.flat_at xs (j / E.sz) (j % E.sz) hq hr
      rw [hdm, hv] at hf
      obtain ⟨_, _, hcell⟩ := World.cells?_some (h3 (j / E.sz) (by rw [← h1]; exact hq))
      have g := hcell (j % E.sz) hr
      rw [← hf] at g
      have ha := had (Nat.ne_of_gt (Nat.lt_of_le_of_lt (Nat.zero_le _) hq))
      simp only [Option.some.injEq] at ha
      have g := old_cell s 0 rfl g
      rw [ha, add_of, add_of] at g
      rw [← hdm]
      simp only [Nat.add_assoc] at g ⊢
      exact g⟩

section
variable {H : Type} {enc : TypeId × Value → H} {r : Reach} {b0 : Nat} {sp : Nat → Bool} {held : Bool} {v : Value} {d : DataW H} {ps : List MemPlace}
theorem arg_i64 (ht : P.underlying t = some (.int .i64)) (hv : Value.okWide P W r b0 t v) (h : DataW.Trod enc P W 0 sp held t v d ps) : ∃ n, v = .int .i64 n ∧ -9223372036854775808 ≤ n ∧ n ≤ 9223372036854775807 := by
  obtain ⟨n, rfl⟩ := okWide_int ht hv
  obtain ⟨fuel, h⟩ := h
  obtain ⟨y, hy, iy⟩ := (op_i64 ht).go h
  simp [Value.cells] at hy
  subst hy
  exact ⟨_, rfl, iy⟩
theorem arg_u8 (ht : P.underlying t = some (.int .u8)) (hv : Value.okWide P W r b0 t v) (h : DataW.Trod enc P W 0 sp held t v d ps) : ∃ n, v = .int .u8 n ∧ 0 ≤ n ∧ n ≤ 255 := by
  obtain ⟨n, rfl⟩ := okWide_int ht hv
  obtain ⟨fuel, h⟩ := h
  obtain ⟨y, hy, iy⟩ := (op_u8 ht).go h
  simp [Value.cells] at hy
  subst hy
  exact ⟨_, rfl, iy⟩
theorem arg_u16 (ht : P.underlying t = some (.int .u16)) (hv : Value.okWide P W r b0 t v) (h : DataW.Trod enc P W 0 sp held t v d ps) : ∃ n, v = .int .u16 n ∧ 0 ≤ n ∧ n ≤ 65535 := by
  obtain ⟨n, rfl⟩ := okWide_int ht hv
  obtain ⟨fuel, h⟩ := h
  obtain ⟨y, hy, iy⟩ := (op_u16 ht).go h
  simp [Value.cells] at hy
  subst hy
  exact ⟨_, rfl, iy⟩
theorem arg_bool (ht : P.underlying t = some .bool) (hv : Value.okWide P W r b0 t v) (h : DataW.Trod enc P W 0 sp held t v d ps) : ∃ b, v = .bool b := okWide_bool ht hv
theorem arg_string (ht : P.underlying t = some .string) (hv : Value.okWide P W r b0 t v) (h : DataW.Trod enc P W 0 sp held t v d ps) : ∃ s, v = .string s ∧ s.size ≤ 9223372036854775807 := by
  obtain ⟨n, rfl⟩ := okWide_string ht hv
  obtain ⟨fuel, h⟩ := h
  obtain ⟨y, hy, iy⟩ := (op_string ht).go h
  simp [Value.cells] at hy
  subst hy
  exact ⟨_, rfl, iy⟩
theorem arg_struct {fs : Array Field} (ht : P.underlying t = some (.struct fs)) (o : Opn P W t val inv) (hv : Value.okWide P W r b0 t v) (h : DataW.Trod enc P W 0 sp held t v d ps) : ∃ y, v = .agg (val y).toArray ∧ inv y := by
  obtain ⟨cs, rfl, _⟩ := okWide_struct ht hv
  obtain ⟨fuel, h⟩ := h
  obtain ⟨y, hy, iy⟩ := o.go h
  refine ⟨y, ?_, iy⟩
  rw [← hy]
  simp [Value.cells]
theorem arg_slice {α : Type} {E : Enc α} {inv : α → Prop} {e : TypeId} (ht : P.underlying t = some (.slice e)) (o : Opn P W e E.e inv) (hs : P.cellsOf e = E.sz) (hv : Value.okWide P W r b0 t v) (h : DataW.Trod enc P W 0 sp held t v d ps) :
    ∃ (a : Option Addr) (c : Nat) (xs : List α), v = .slice a xs.length c ∧ xs.length ≤ c ∧ c ≤ 9223372036854775807 ∧ Rd E [old W] a xs ∧ ∀ z ∈ xs, inv z := by
  obtain ⟨a, len, cap, rfl⟩ := okWide_slice ht hv
  obtain ⟨fuel, h⟩ := h
  obtain ⟨⟨a', c', xs⟩, hy, iy⟩ := (op_slice ht o hs).go h
  simp [Value.cells] at hy
  obtain ⟨rfl, rfl, rfl⟩ := hy
  exact ⟨_, _, _, rfl, iy⟩

/-- a law whose contract holds: its row's post -/
theorem post_law {f : Func} {s : ChangeSpec} {W W' : World} {args : Array Value} {ds : List (DataW H)} {before : List MemPlace} {tb : TypeId}
    (hl : laidOutB P = true) (hm : mapsRowed P = true) (hz : sizedB P = true) (hp : ∀ t ∈ f.params.toList, t < P.types.size) (htb : P.underlying tb = some .bool) (hrt : f.resultTypes = #[tb]) (hsv : s.vars = [])
    (hW : DataW.Whole enc P f.params.toList s.vars false W args.toList ds [] before)
    (hr : (s.fn H (ds ++ [])).results = [.lit (.bool true)]) (ha : (s.fn H (ds ++ [])).args = ds) (hvs : (s.fn H (ds ++ [])).vars = []) (hst : Stays W W') :
    s.post enc P f false true false false W args (.bool true) W' := by
  have hW0 := hW
  obtain ⟨p, q, hA, hV, rfl, _, _⟩ := hW0
  rw [hsv] at hV
  obtain ⟨_, rfl⟩ := trodVars_none hV
  have hrl : (Value.bool true).resultList f.resultTypes.size = [.bool true] := by rw [hrt]; rfl
  refine post_stays (pa := p) (pv := []) hW ?_ ?_ ?_ rfl hst ?_
  · intro b sp hd
    rw [hr, hrl, hrt]
    exact trodAll_cons_mk (shut_bool htb true) trodAll_mk0
  · intro sp hsp
    rw [ha]
    exact args_stay hl hm hz hst.heap hA hp (fun x hx => hsp x (by simpa using hx))
  · intro sp _
    rw [hsv, hvs]
    rfl
  · intro j t r h1 h2
    rw [hrt] at h1
    rw [hrl] at h2
    cases j with
    | zero =>
      simp at h1 h2
      subst h1 h2
      exact okWide_bool_mk htb true
    | succ j => simp at h1
end
end Go.Eng
namespace Go.Proofs.YtdjpcfaidgofoaaGreat.topAccepts
open Go.Eng Go.ChangeShapes Go.WideShapes Go.ChangeAt Go.RowKit
set_option linter.unusedVariables false
theorem own : ownKnob Tryz.prog.godebug = none := by kernel_rfl
set_option maxRecDepth 100000 in
theorem lifted (os : Os) (started : os.Started) (H : Type) (enc : TypeId × Value → H) :
    ReturnsInHanded {} Tryz.checked os 3 .any (Rows.topAcceptsSpec.pre6 enc Tryz.prog Tryz.f3 Rows.topAcceptsRow.domain false) (Rows.topAcceptsSpec.post enc Tryz.prog Tryz.f3 false true false false) := by
  refine returnsInHanded_of_change (C := Tryz.checked) own started (by kernel_rfl) Tryz.func3
    (ChangeSpec.witness6 (enc := enc) (C := Tryz.checked) false ⟨#[], #[.string ByteArray.empty, .bool false], []⟩ 8 (by kernel_rfl) (by kernel_rfl) (by kernel_rfl) (by kernel_rfl)) ?_
  intro W base args ds gs before hval0 hW hcnd _
  have hval : ∀ (j : Nat) t v, Tryz.f3.params[j]? = some t → args[j]? = some v → Value.okWide Tryz.prog W .any base t v := hval0
  have hW' := hW
  obtain ⟨p, q, hA0, hV, hpq, hfz, hnd⟩ := hW
  have hA : DataW.TrodAll enc Tryz.prog W 0 (fun _ => true) true Tryz.f3.params.toList args.toList ds p := hA0
  rw [Tryz.params3] at hA hval
  obtain ⟨v0, vs0, d0, ds0, p0, q0, hargs, rfl, hp0, h0, r0⟩ := trodAll_cons hA
  obtain ⟨v1, vs1, d1, ds1, p1, q1, rfl, rfl, hp1, h1, r1⟩ := trodAll_cons r0
  obtain ⟨rfl, rfl, _⟩ := trodAll_nil r1
  obtain rfl : args = #[v0, v1] := by cases args; simp_all
  obtain ⟨rfl, rfl⟩ := trodVars_none hV
  obtain ⟨s0, rfl, b0⟩ := arg_string (show Tryz.prog.underlying 9 = some .string from by kernel_rfl) (hval 0 9 v0 rfl rfl) h0
  obtain ⟨t1, rfl⟩ := arg_bool (show Tryz.prog.underlying 4 = some .bool from by kernel_rfl) (hval 1 4 v1 rfl rfl) h1
  refine (law_calls (Tryz.topAcceptsLaw s0 t1 [old W])).mono fun e W' ⟨he, hg⟩ => ?_
  subst he
  exact ⟨_, rfl, post_law (P := Tryz.prog) (tb := 4) (by kernel_rfl) (by kernel_rfl) (by kernel_rfl) (fun t ht => of_decide_eq_true (List.all_eq_true.1 (by kernel_rfl : Tryz.f3.params.toList.all (fun t => decide (t < Tryz.prog.types.size)) = true) t ht)) (by kernel_rfl) (by kernel_rfl) rfl hW' rfl rfl rfl hg⟩

theorem over : Rows.topAcceptsRow.holds Tryz.pinned (OpenSpec.ofChange Rows.topAcceptsSpec) :=
  OpenClaim.holds_of_wide 3 Tryz.f3 rfl rfl rfl rfl rfl rfl rfl ⟨rfl, rfl, rfl, rfl, rfl⟩ rfl rfl rfl rfl rfl (by kernel_rfl) Tryz.func3 (by kernel_rfl)
    (of_decide_eq_true (by kernel_rfl)) (by unfold Func.isWrapper; first | (rw [if_pos (by decide +kernel)]; kernel_rfl) | (rw [if_neg (by decide +kernel)]; exact ⟨rfl, rfl⟩))
    (fun os started H enc _ => lifted os started H enc)

/-- the statement -/
theorem proved : Rows.TopAcceptsSaid :=
  over
end Go.Proofs.YtdjpcfaidgofoaaGreat.topAccepts
