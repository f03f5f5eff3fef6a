/- Rows of eight registers within a block, at a place that is not known. -/
import Derived.Test.YtdjpcfaidgofoaaGreatEngList
import Derived.Laws.IdiomStrings
import Derived.Lib.BufferRead
set_option linter.all false
namespace Go.Eng
set_option linter.unusedVariables false
variable {P : Program} {τ : Tys} {α : Type} {E : Enc α} {L M : List HP} {a : Option Addr} {xs ys : List α}

def u8E : Enc UInt8 := ⟨1, fun u => [.int .u8 u.toNat], 0, fun _ => rfl, by omega, fun _ => rfl⟩
def intE : Enc Int := ⟨1, fun n => [.int .i64 n], 0, fun _ => rfl, by omega, fun _ => rfl⟩
def boolE : Enc Bool := ⟨1, fun b => [.bool b], false, fun _ => rfl, by omega, fun _ => rfl⟩
def strE : Enc ByteArray := ⟨1, fun s => [.string s], ByteArray.empty, fun _ => rfl, by omega, fun _ => rfl⟩

/-- the byte of a number -/
def u8of (n : Int) : UInt8 := UInt8.ofNat (n % 256).toNat
theorem u8of_int (n : Int) : ((u8of n).toNat : Int) = n % 256 := by
  unfold u8of
  rw [UInt8.toNat_ofNat']
  omega
theorem u8of_toNat (x : UInt8) : u8of (x.toNat : Int) = x := by
  have h := x.toNat_lt
  apply UInt8.toNat_inj.1
  have := u8of_int (x.toNat : Int)
  omega
theorem Ar.u8b {n : Int} {K : Int → Prop} (k : K ((u8of n).toNat : Int)) : Ar .u8 n K := Ar.u8w (by rw [← u8of_int]; exact k)
theorem u8_lt (x : UInt8) : (x.toNat : Int) ≤ 255 := by have := x.toNat_lt; omega
theorem Ar.i64b {x : UInt8} {K : Int → Prop} (k : K (x.toNat : Int)) : Ar .i64 (x.toNat : Int) K := Ar.i64 ⟨by omega, by have := u8_lt x; omega⟩ k
/-- a string's letter -/
def sAt (s : ByteArray) (k : Nat) : UInt8 := s.data.toList.getD k 0
theorem size_list (s : ByteArray) : s.data.toList.length = s.size := Array.length_toList
theorem sAt_eq {s : ByteArray} {k : Nat} (h : k < s.size) : s[k]? = some (sAt s k) := by
  have h' : k < s.data.toList.length := by rw [size_list]; exact h
  rw [getElem?_pos s k h]
  have : sAt s k = s.data.toList[k] := by simp only [sAt, List.getD, List.getElem?_eq_getElem h', Option.getD_some]
  rw [this]
  simp
  rfl
theorem SIx.mk' {s : ByteArray} {n : Int} {K : UInt8 → Prop} (hb : 0 ≤ n ∧ n < s.size) (k : K (sAt s n.toNat)) : SIx s n K := ⟨_, hb.1, sAt_eq (by omega), k⟩
theorem SIx.nat {s : ByteArray} {j : Nat} {K : UInt8 → Prop} (hb : j < s.size) (k : K (sAt s j)) : SIx s (j : Int) K := ⟨_, by omega, sAt_eq (by omega), k⟩
theorem SubS.mid {s : ByteArray} {kl kh : IntKind} {l h : Int} {K : Value → Prop} (hb : 0 ≤ l ∧ l ≤ h ∧ h ≤ s.size) (k : K (.string (s.extract l.toNat h.toNat))) : SubS s (some (.int kl l)) (some (.int kh h)) K :=
  ⟨l.toNat, h.toNat, ⟨kl, by rw [Int.toNat_of_nonneg hb.1]⟩, ⟨kh, by rw [Int.toNat_of_nonneg (by omega)]⟩, by omega, by omega, k⟩
theorem SubS.pre {s : ByteArray} {kh : IntKind} {h : Int} {K : Value → Prop} (hb : 0 ≤ h ∧ h ≤ s.size) (k : K (.string (s.extract 0 h.toNat))) : SubS s none (some (.int kh h)) K :=
  ⟨0, h.toNat, rfl, ⟨kh, by rw [Int.toNat_of_nonneg hb.1]⟩, by omega, by omega, k⟩
theorem SubS.suf {s : ByteArray} {kl : IntKind} {l : Int} {K : Value → Prop} (hb : 0 ≤ l ∧ l ≤ s.size) (k : K (.string (s.extract l.toNat s.size))) : SubS s (some (.int kl l)) none K :=
  ⟨l.toNat, s.size, ⟨kl, by rw [Int.toNat_of_nonneg hb.1]⟩, rfl, by omega, Nat.le_refl _, k⟩
theorem extract_list (s : ByteArray) (l h : Nat) : (s.extract l h).data.toList = (s.data.toList.take h).drop l := by
  rw [ByteArray.data_extract, Array.toList_extract, List.extract_eq_take_drop, List.drop_take]
theorem extract_size (s : ByteArray) (l h : Nat) (hl : l ≤ h) (hh : h ≤ s.size) : (s.extract l h).size = h - l := by
  rw [← size_list, extract_list, List.length_drop, List.length_take, size_list]; omega
/-- strings are the same if their letters are -/
theorem str_ext {s t : ByteArray} (h : s.data.toList = t.data.toList) : s = t := by
  cases s; cases t
  simp only [ByteArray.mk.injEq]
  exact Array.ext' h
theorem append_list (s t : ByteArray) : (s ++ t).data.toList = s.data.toList ++ t.data.toList := by simp [ByteArray.data_append]

theorem und_string {t : TypeId} {i : TyI} (h : TyOk P t i) (hd : i.d = .string) : P.underlying t = some .string := by
  obtain ⟨D, hD, hb, _⟩ := h.und
  rw [hD]
  rw [hd] at hb
  cases D <;> simp [bare] at hb
  rfl
theorem und_int {t : TypeId} {i : TyI} (h : TyOk P t i) {k : IntKind} (hd : i.d = .int k) : P.underlying t = some (.int k) := by
  obtain ⟨D, hD, hb, _⟩ := h.und
  rw [hD]
  rw [hd] at hb
  cases D <;> simp [bare] at hb
  rw [hb]

/-- bytes as a string -/
theorem Sm.b2s (hτ : TysOk P τ) {st dt et : TypeId} {si di ei : TyI} {n c : Nat} {xs : List UInt8} {K : Value → List HP → Prop} (hn : n = xs.length) (hr : Rd u8E L a xs) (hs : τ[st]? = some (some si)) (hsd : si.d = .slice et)
    (hd : τ[dt]? = some (some di)) (hdd : di.d = .string) (he : τ[et]? = some (some ei)) (hed : ei.d = .int .u8) (k : K (.string ⟨xs.toArray⟩) L) :
    Sm P (convert st dt (.slice a n c)) L K := by
  subst hn
  have h1 := und_of (hτ _ _ hs) hsd
  have h2 := und_string (hτ _ _ hd) hdd
  have h3 := und_int (hτ _ _ he) hed
  refine ⟨fun w s => ⟨_, w, L, ?_, s, k⟩⟩
  cases a with
  | none =>
    have hx : xs = [] := by
      rcases xs with _ | ⟨x, xs⟩
      · rfl
      · have := hr.ad (by simp); cases this
    subst hx
    exact Lib.run_convert_nil_bytes w st dt et c h1 h3 h2
  | some a =>
    refine run_convert_bytes_back w st dt et a c xs h1 h3 h2 fun j hj => ?_
    have had := hr.ad (by omega)
    simp only [Option.some.injEq] at had
    have hf := u8E.flat_at xs j 0 hj (by decide)
    have e1 : u8E.sz = 1 := rfl
    rw [e1, Nat.mul_one, Nat.add_zero] at hf
    have hv : (u8E.e (xs.getD j u8E.d))[0]? = some (.int .u8 (xs[j].toNat : Int)) := by
      have : xs.getD j u8E.d = xs[j] := by simp [List.getD, hj]
      rw [this]; rfl
    rw [hv] at hf
    have := hr.at_ w s j _ hf
    rw [had, add_of]
    exact this

theorem SR.b2s (hτ : TysOk P τ) {st dt et : TypeId} {si di ei : TyI} {n c : Nat} {xs : List UInt8} {K : Value → Prop} (hn : n = xs.length) (hr : Rd u8E L a xs) (hs : τ[st]? = some (some si)) (hsd : si.d = .slice et)
    (hd : τ[dt]? = some (some di)) (hdd : di.d = .string) (he : τ[et]? = some (some ei)) (hed : ei.d = .int .u8) (k : K (.string ⟨xs.toArray⟩)) :
    SR P (convert st dt (.slice a n c)) L K := by
  subst hn
  have h1 := und_of (hτ _ _ hs) hsd
  have h2 := und_string (hτ _ _ hd) hdd
  have h3 := und_int (hτ _ _ he) hed
  refine ⟨_, fun w s => ?_, k⟩
  cases a with
  | none =>
    have hx : xs = [] := by
      rcases xs with _ | ⟨x, xs⟩
      · rfl
      · have := hr.ad (by simp); cases this
    subst hx
    exact Lib.run_convert_nil_bytes w st dt et c h1 h3 h2
  | some a =>
    refine run_convert_bytes_back w st dt et a c xs h1 h3 h2 fun j hj => ?_
    have had := hr.ad (by omega)
    simp only [Option.some.injEq] at had
    have hf := u8E.flat_at xs j 0 hj (by decide)
    have e1 : u8E.sz = 1 := rfl
    rw [e1, Nat.mul_one, Nat.add_zero] at hf
    have hv : (u8E.e (xs.getD j u8E.d))[0]? = some (.int .u8 (xs[j].toNat : Int)) := by
      have : xs.getD j u8E.d = xs[j] := by simp [List.getD, hj]
      rw [this]; rfl
    rw [hv] at hf
    have := hr.at_ w s j _ hf
    rw [had, add_of]
    exact this

/-! rows copied -/
theorem ovr_eq {cs vs : List Value} : ∀ {o : Nat}, o + vs.length ≤ cs.length → ovr cs o vs = cs.take o ++ vs ++ cs.drop (o + vs.length) := by
  induction cs generalizing vs with
  | nil => intro o h; simp at h; obtain ⟨rfl, h⟩ := h; subst h; simp [ovr]
  | cons c cs ih =>
    intro o h
    cases o with
    | zero =>
      cases vs with
      | nil => simp [ovr]
      | cons v vs =>
        have := ih (vs := vs) (o := 0) (by simp at h; omega)
        simp only [ovr, this]
        simp
    | succ o =>
      have := ih (vs := vs) (o := o) (by simp at h; omega)
      simp only [ovr, this, List.take_succ_cons, List.cons_append]
      rw [show o + 1 + vs.length = (o + vs.length) + 1 from by omega, List.drop_succ_cons]
theorem flat_ovr {l : Nat} (h : l + ys.length ≤ xs.length) : ovr (E.flat xs) (l * E.sz) (E.flat ys) = E.flat (xs.take l ++ ys ++ xs.drop (l + ys.length)) := by
  rw [ovr_eq, E.flat_append, E.flat_append, E.flat_take, E.flat_drop, E.flat_len, Nat.add_mul]
  rw [E.flat_len, E.flat_len, ← Nat.add_mul]
  exact Nat.mul_le_mul_right _ h
/-- a row with others laid over it, from a place on -/
def lay (xs : List α) (l : Nat) (ys : List α) : List α := xs.take l ++ ys ++ xs.drop (l + ys.length)
theorem lay_len {l : Nat} (h : l + ys.length ≤ xs.length) : (lay xs l ys).length = xs.length := by
  simp only [lay, List.length_append, List.length_take, List.length_drop]; omega
theorem lay_getD {l i : Nat} {d : α} (h : l + ys.length ≤ xs.length) : (lay xs l ys).getD i d = if l ≤ i ∧ i < l + ys.length then ys.getD (i - l) d else xs.getD i d := by
  simp only [lay, List.getD_eq_getElem?_getD, List.getElem?_append, List.length_append, List.length_take, List.getElem?_take, List.getElem?_drop, Nat.min_eq_left (show l ≤ xs.length by omega)]
  by_cases h1 : i < l
  · rw [if_pos (by omega), if_pos h1, if_pos h1, if_neg (by omega)]
  · by_cases h2 : i < l + ys.length
    · rw [if_pos h2, if_neg h1, if_pos (by omega)]
    · rw [if_neg h2, if_neg (by omega)]
      congr 2; omega
theorem lay_nil {l : Nat} : lay xs l [] = xs := by simp [lay]
theorem cp_core {w : World} {t : TypeId} {c i l : Nat} (hi : L[i]? = some (own E t a c xs)) (s : Sat w L) (hl : l + ys.length ≤ xs.length) (h0 : ys ≠ []) :
    ∃ w', (storeCells ⟨blk a, off a + l * E.sz, none⟩ (E.flat ys)).run P w = .ok () w' ∧ Sat w' (L.set i (own E t a c (lay xs l ys))) := by
  have hlt := (List.getElem?_eq_some_iff.1 hi).1
  have hpos := List.length_pos_iff.2 h0
  rcases own_open s i hi with ⟨_, _, rfl⟩ | ⟨b, sp, rfl, hlen, hc, s1⟩
  · rw [List.length_nil] at hl; omega
  · have hm : l * E.sz + ys.length * E.sz ≤ xs.length * E.sz := by rw [← Nat.add_mul]; exact Nat.mul_le_mul_right _ hl
    have hfit : l * E.sz + (E.flat ys).length ≤ (E.flat xs).length := by rw [E.flat_len, E.flat_len]; exact hm
    obtain ⟨w', hr, s2⟩ := store_all (P := P) (E.flat ys) (l * E.sz) 0 _ w _ i (List.getElem?_set_self hlt) s1 (by rw [List.length_append]; omega) (oneAll_mem (E.flat_one ys))
    rw [List.set_set, Nat.add_zero, ovr_app hfit, flat_ovr hl] at s2
    have e0 : (⟨blk (some ⟨b, 0, none⟩), off (some ⟨b, 0, none⟩) + l * E.sz, none⟩ : Addr) = ⟨b, l * E.sz, none⟩ := by simp [blk, off]
    rw [e0]
    refine ⟨w', hr, ?_⟩
    have s3 := sat_set_own (E := E) (xs := lay xs l ys) (c := c) i (List.getElem?_set_self hlt) ⟨sp, rfl, by rw [lay_len hl]; exact hlen⟩ hc s2
    rw [List.set_set] at s3
    exact s3
theorem set_self {i : Nat} {A : HP} (hi : L[i]? = some A) : L.set i A = L := by
  obtain ⟨h, rfl⟩ := List.getElem?_eq_some_iff.1 hi
  exact List.set_getElem_self h
theorem flat_u8 (xs : List UInt8) : u8E.flat xs = xs.map fun b => .int .u8 b.toNat := by
  induction xs with
  | nil => rfl
  | cons x xs ih => rw [u8E.flat_cons, ih]; rfl
/-- a string, copied into a row of one's own, from a place on -/
theorem Sm.cpS (hτ : TysOk P τ) {dt st et ty : TypeId} {di ei : TyI} {n c cap l : Nat} {xs : List UInt8} {t : ByteArray} {K : Value → List HP → Prop} (i : Nat) (hi : L[i]? = some (own u8E et a c xs))
    (hd : τ[dt]? = some (some di)) (hdd : di.d = .slice et) (he : τ[et]? = some (some ei)) (hz : ei.size = 1) (hn : n = (xs.drop l).length) (hl : l + t.size ≤ xs.length) (hc : xs.length ≤ c)
    (k : lsetK L i (own u8E et a c (lay xs l t.data.toList)) (K (.int .i64 t.size))) :
    Sm P (Builtin.copy_ #[dt, st] ty #[.slice (from_ a c l 1) n cap, .string t]) L K := by
  subst hn
  rw [lsetK_eq] at k
  have h1 := und_of (hτ _ _ hd) hdd
  obtain ⟨inf, hi2, hsize, _, _⟩ := (hτ _ _ he).info
  have hmin : Nat.min t.size (xs.drop l).length = t.size := Nat.min_eq_left (by rw [List.length_drop]; omega)
  have hex : t.extract 0 t.size = t := str_ext (by rw [extract_list, List.drop_zero, ← size_list, List.take_length])
  refine ⟨fun w s => ?_⟩
  by_cases h0 : t.size = 0
  · have ht : t.data.toList = [] := List.eq_nil_of_length_eq_zero (by rw [size_list]; exact h0)
    rw [ht, lay_nil, set_self hi] at k
    refine ⟨_, w, L, ?_, s, k⟩
    cases hf : from_ a c l 1 <;>
      simp [Builtin.copy_, run_underlying h1, Builtin.lenOf, Builtin.firstCells, sizeOf, typeInfo, hi2, hmin, hex, ht, h0, storeCells, goInt, show t.data = #[] from Array.ext' ht]
  · have hy : t.data.toList ≠ [] := fun e => h0 (by rw [← size_list, e]; rfl)
    have had : Ad a xs.length := (s.own i hi).2.1
    obtain ⟨w', hr, s'⟩ := cp_core (P := P) (ys := t.data.toList) (l := l) hi s (by rw [size_list]; exact hl) hy
    refine ⟨_, w', _, ?_, s', k⟩
    rw [from_pos had (by omega) hc]
    have e1 : u8E.sz = 1 := rfl
    rw [e1] at hr
    rw [flat_u8] at hr
    have hmin2 : t.size.min (xs.length - l) = t.size := by rw [List.length_drop] at hmin; exact hmin
    have htk : (List.map (fun b : UInt8 => Value.int IntKind.u8 b.toNat) t.data.toList).take t.size = List.map (fun b : UInt8 => Value.int IntKind.u8 b.toNat) t.data.toList := List.take_of_length_le (by rw [List.length_map, size_list]; exact Nat.le_refl _)
    simp [Builtin.copy_, run_underlying h1, Builtin.lenOf, Builtin.firstCells, sizeOf, typeInfo, hi2, hex, goInt] at hr ⊢
    rw [hmin2, htk, hr]
    rfl
/-- a row, copied into the beginning of one's own -/
theorem Sm.cpB (hτ : TysOk P τ) {dt st et ty : TypeId} {di ei : TyI} {n c m c' : Nat} {a' : Option Addr} {K : Value → List HP → Prop} (i : Nat) (hi : L[i]? = some (own E et a c xs)) (hr : Rd E L a' ys) (hm : m = ys.length)
    (hd : τ[dt]? = some (some di)) (hdd : di.d = .slice et) (he : τ[et]? = some (some ei)) (hz : ei.size = E.sz) (hn : n = xs.length) (hl : ys.length ≤ xs.length)
    (k : lsetK L i (own E et a c (lay xs 0 ys)) (K (.int .i64 ys.length))) :
    Sm P (Builtin.copy_ #[dt, st] ty #[.slice a n c, .slice a' m c']) L K := by
  subst hn hm
  rw [lsetK_eq] at k
  have h1 := und_of (hτ _ _ hd) hdd
  obtain ⟨inf, hi2, hsize, _, _⟩ := (hτ _ _ he).info
  have hmin : Nat.min ys.length xs.length = ys.length := Nat.min_eq_left hl
  refine ⟨fun w s => ?_⟩
  have hnews : ∀ {b : Addr}, a' = some b → (loadCells b (ys.length * inf.size)).run P w = .ok (E.flat ys).toArray w := by
    rintro b rfl
    rw [hsize, hz, ← E.flat_len]
    refine run_loadCells_list w b (E.flat ys) fun j v hv => ?_
    have h0 : ys.length ≠ 0 := fun h => by
      have := List.eq_nil_of_length_eq_zero h
      subst this
      simp [Enc.flat] at hv
    have had := hr.ad h0
    simp only [Option.some.injEq] at had
    have := hr.at_ w s j v hv
    rw [had, add_of]
    exact this
  by_cases h0 : ys = []
  · subst h0
    rw [lay_nil, set_self hi] at k
    refine ⟨_, w, L, ?_, s, k⟩
    have hl0 : ∀ x : Addr, (loadCells x 0).run P w = .ok #[] w := fun x => by simpa using run_loadCells_list (P := P) w x [] (by simp)
    cases a <;> cases a' <;> simp [Builtin.copy_, run_underlying h1, Builtin.lenOf, Builtin.firstCells, sizeOf, typeInfo, hi2, hl0, storeCells, goInt]
  · have hpos := List.length_pos_iff.2 h0
    have had : Ad a xs.length := (s.own i hi).2.1
    have ha := had (by omega)
    have ha' := hr.ad (by omega)
    obtain ⟨w', hrun, s'⟩ := cp_core (P := P) (ys := ys) (l := 0) hi s (by omega) h0
    refine ⟨_, w', _, ?_, s', k⟩
    have hld := hnews ha'
    clear hnews
    obtain ⟨p, q, rfl⟩ : ∃ p q, a' = some ⟨p, q, none⟩ := ⟨_, _, ha'⟩
    obtain ⟨p2, q2, rfl⟩ : ∃ p q, a = some ⟨p, q, none⟩ := ⟨_, _, ha⟩
    rw [Nat.zero_mul, Nat.add_zero] at hrun
    simp only [blk, off] at hld hrun
    simp [Builtin.copy_, run_underlying h1, Builtin.lenOf, Builtin.firstCells, sizeOf, typeInfo, hi2, hmin, goInt]
    rw [hld, Result.andThen_ok]
    simp [hrun]

/-- a made row -/
theorem flat_rep (E : Enc α) (x : α) : ∀ n : Nat, (List.replicate n (E.e x)).flatten = E.flat (List.replicate n x)
  | 0 => rfl
  | n + 1 => by rw [List.replicate_succ, List.flatten_cons, flat_rep E x n, List.replicate_succ, E.flat_cons]
theorem Mk.own {et : TypeId} {i : TyI} {n : Int} {K : Value → List HP → Prop} (E : Enc α) (hz : cellsL i.zero = E.e E.d) (hn : 0 ≤ n ∧ n ≤ 34359738368) (hb : Nat.ble i.bytes 4096 = true)
    (k : ∀ b, K (.slice (some ⟨b, 0, none⟩) (List.replicate n.toNat E.d).length (List.replicate n.toNat E.d).length) (Eng.own E et (some ⟨b, 0, none⟩) (List.replicate n.toNat E.d).length (List.replicate n.toNat E.d) :: L)) : Mk et i n n L K := by
  have hb := Nat.le_of_ble_eq_true hb
  refine ⟨hn.1, Int.le_refl _, by omega, ?_, fun b => ?_⟩
  · have h1 : (i.bytes : Int) * n ≤ 4096 * 34359738368 := Int.mul_le_mul (by omega) hn.2 hn.1 (by omega)
    omega
  · refine ⟨_, fun w s => Ent.own (E := E) (List.replicate n.toNat E.d) (by rw [hz, flat_rep]) (by rw [List.length_replicate]; show n.toNat ≤ 9223372036854775807; omega) w s, ?_⟩
    have := k b
    rw [List.length_replicate] at this ⊢
    exact this
/-! calls over a part of memory, wherever it stands -/
theorem Con.at {f : FuncId} {args : List Value} {B : HP} {R : Value → List HP → Prop} (i : Nat) (hi : L[i]? = some B) (c : Con P f args (B :: L.eraseIdx i) R) : Con P f args L R :=
  ⟨c.ent, fun w s => c.run w (s.perm (perm_at L i hi))⟩
theorem Con.entl {f : FuncId} {args : List Value} {R : Value → List HP → Prop} (h : Ent L M) (c : Con P f args M R) : Con P f args L R := ⟨c.ent, fun w s => c.run w (h w s)⟩
theorem perm_set {B : HP} {i : Nat} (hi : i < L.length) : (B :: L.eraseIdx i).Perm (L.set i B) := by
  have h1 : (L.set i B)[i]? = some B := List.getElem?_set_self hi
  have h2 := perm_at (L.set i B) i h1
  rw [List.eraseIdx_set_eq] at h2
  exact h2.symm
theorem Cl.isAt {f : FuncId} {args : List Value} {B B' : HP} {K : Value → List HP → Prop} {X : List PanicEntry → List HP → Prop} {v : Value} (i : Nat) (hi : L[i]? = some B)
    (c : Con P f args (B :: L.eraseIdx i) (Is v (B' :: L.eraseIdx i))) (k : lsetK L i B' (K v)) : Cl P f args L K X := by
  rw [lsetK_eq] at k
  refine Cl.is ⟨c.ent, fun w s => (c.run w (s.perm (perm_at L i hi))).mono fun e w' => ?_⟩ k
  have hlt := (List.getElem?_eq_some_iff.1 hi).1
  cases e with
  | returned v' => rintro ⟨L', s', r⟩; exact ⟨_, (r.l _ s').perm (perm_set hlt), ⟨r.v, Ent.rfl⟩⟩
  | panicked ch => rintro ⟨L', s', r⟩; exact r.elim
  | outgrown => exact id
/-- a part that holds others -/
theorem Con.opened {f : FuncId} {args : List Value} {β : Type} {A : HP} {B : β → List HP} {R : Value → List HP → Prop} {X : List PanicEntry → List HP → Prop} (h : ∀ e c, A e c → ∃ x, Parts e (B x) c) (ne : Nonempty β)
    (k : ∀ x, Con P f args (B x ++ L) R X) : Con P f args (A :: L) R X := by
  refine ⟨(k (Classical.choice ne)).ent, fun w s => ?_⟩
  obtain ⟨c, ⟨h1, h2, rfl, ha, hl⟩, ok⟩ := s
  obtain ⟨x, hx⟩ := h _ _ ha
  exact (k x).run w ⟨_, parts_append.2 ⟨h1, h2, rfl, hx, hl⟩, ok⟩
theorem Ent.opened {A : HP} {M : List HP} (h : ∀ e c, A e c → Parts e M c) : Ent (A :: L) (M ++ L) := fun w s => s.opened h
theorem Ent.shut {A : HP} {M N : List HP} (h : ∀ e c, Parts e M c → A e c) (k : Ent N (M ++ L)) : Ent N (A :: L) := fun w s => (k w s).shut h
end Go.Eng
set_option linter.all false
namespace Go.Eng
set_option linter.unusedVariables false
variable {P : Program} {τ : Tys} {L : List HP}
/-- registers, one of them anew -/
def upd (r : Nat → Int) (n : Nat) (v : Int) : Nat → Int := fun i => if i = n then v else r i
theorem upd_at {r : Nat → Int} {n : Nat} {v : Int} : upd r n v n = v := if_pos rfl
theorem upd_ne {r : Nat → Int} {n i : Nat} {v : Int} (h : i ≠ n) : upd r n v i = r i := if_neg h
abbrev stC (pc : Int) (r : Nat → Int) (m : Int) : List Value := [.int .i64 pc, .int .i64 (r 0), .int .i64 (r 1), .int .i64 (r 2), .int .i64 (r 3), .int .i64 (r 4), .int .i64 (r 5), .int .i64 (r 6), .int .i64 (r 7), .int .i64 m]
theorem stC_at (pc : Int) (r : Nat → Int) (m : Int) {n : Nat} (h : n < 8) : (stC pc r m)[1 + n]? = some (.int .i64 (r n)) := by
  match n, h with
  | 0, _ => rfl
  | 1, _ => rfl
  | 2, _ => rfl
  | 3, _ => rfl
  | 4, _ => rfl
  | 5, _ => rfl
  | 6, _ => rfl
  | 7, _ => rfl
theorem stC_set (pc : Int) (r : Nat → Int) (m v : Int) {n : Nat} (h : n < 8) : (stC pc r m).set (1 + n) (.int .i64 v) = stC pc (upd r n v) m := by
  match n, h with
  | 0, _ => rfl
  | 1, _ => rfl
  | 2, _ => rfl
  | 3, _ => rfl
  | 4, _ => rfl
  | 5, _ => rfl
  | 6, _ => rfl
  | 7, _ => rfl
/-- an element's address, in a row whose block is known -/
theorem Ix.arr {b o len sz : Nat} {n : Int} {K : Addr → Prop} (hb : 0 ≤ n ∧ n < len) (k : K ⟨b, o + n.toNat * sz, none⟩) : Ix (some ⟨b, o, none⟩) len n sz K :=
  ⟨_, rfl, hb.1, hb.2, by rw [add_of]; exact k⟩
theorem Ld.reg {b : Nat} {t : TypeId} {pc m n : Int} {r : Nat → Int} {K : Value → Prop} (i : Nat) (hi : L[i]? = some (ptc b t (stC pc r m))) (hb : 0 ≤ n ∧ n < 8) (k : K (.int .i64 (r n.toNat))) : Ld L ⟨b, 1 + n.toNat * 1, none⟩ K :=
  Ld.at i hi (by rw [Nat.mul_one]; exact stC_at pc r m (by omega)) k
theorem St.reg {b : Nat} {t : TypeId} {pc m n v : Int} {r : Nat → Int} {K : List HP → Prop} (i : Nat) (hi : L[i]? = some (ptc b t (stC pc r m))) (hb : 0 ≤ n ∧ n < 8) (k : lsetK L i (ptc b t (stC pc (upd r n.toNat v) m)) K) :
    St P L ⟨b, 1 + n.toNat * 1, none⟩ [.int .i64 v] K := by
  refine St.at i hi (by rw [Nat.mul_one]; show 1 + n.toNat + 1 ≤ 10; omega) rfl ?_
  have e : ovr (stC pc r m) (1 + n.toNat * 1) [.int .i64 v] = stC pc (upd r n.toNat v) m := by
    rw [Nat.mul_one, ← stC_set pc r m v (by omega : n.toNat < 8), ovr_eq (by show 1 + n.toNat + 1 ≤ 10; omega), List.set_eq_take_append_cons_drop, if_pos (by show 1 + n.toNat < 10; omega)]
    simp
  rw [e]
  exact k
end Go.Eng
