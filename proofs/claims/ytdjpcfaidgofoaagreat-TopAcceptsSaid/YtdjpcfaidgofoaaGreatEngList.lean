/- Slices: rows of elements, read from wherever, or owned. -/
import Derived.Test.YtdjpcfaidgofoaaGreatEngDraw
import Derived.Test.YtdjpcfaidgofoaaGreatEngLoop
import Derived.Laws.AppendOwn
set_option linter.all false
namespace Go.Eng
set_option linter.unusedVariables false
variable {P : Program} {τ : Tys} {α : Type}
theorem perm_at {β : Type} {B : β} : ∀ (L : List β) (i : Nat), L[i]? = some B → L.Perm (B :: L.eraseIdx i)
  | [], i, h => by simp at h
  | A :: L, 0, h => by simp at h; subst h; exact .refl _
  | A :: L, i + 1, h => by
    have := perm_at L i (by simpa using h)
    exact (this.cons A).trans (List.Perm.swap B A _)

/-- how an element lies in cells -/
structure Enc (α : Type) where
  sz : Nat
  e : α → List Value
  d : α
  len : ∀ x, (e x).length = sz
  pos : 0 < sz
  one : ∀ x, oneAll (e x) = true

def blk : Option Addr → Nat
  | some a => a.block
  | none => 0
def off : Option Addr → Nat
  | some a => a.off
  | none => 0
/-- a row's place is known if it has elements -/
def Ad (a : Option Addr) (n : Nat) : Prop := n ≠ 0 → a = some ⟨blk a, off a, none⟩
theorem Ad.mono {a : Option Addr} {n m : Nat} (h : Ad a n) (hm : m ≤ n) : Ad a m := fun h0 => h (by omega)

namespace Enc
variable (E : Enc α)
def flat (xs : List α) : List Value := xs.flatMap E.e
theorem flat_nil : E.flat [] = [] := rfl
theorem flat_cons (x : α) (xs : List α) : E.flat (x :: xs) = E.e x ++ E.flat xs := rfl
theorem flat_append (xs ys : List α) : E.flat (xs ++ ys) = E.flat xs ++ E.flat ys := by simp [flat]
theorem flat_len (xs : List α) : (E.flat xs).length = xs.length * E.sz := by
  induction xs with
  | nil => simp [flat]
  | cons x xs ih => rw [flat_cons, List.length_append, ih, E.len, List.length_cons, Nat.add_mul]; omega
theorem flat_at : ∀ (xs : List α) (i j : Nat), i < xs.length → j < E.sz → (E.flat xs)[i * E.sz + j]? = (E.e (xs.getD i E.d))[j]?
  | [], i, j, h, _ => by simp at h
  | x :: xs, 0, j, _, hj => by
    rw [flat_cons, List.getElem?_append_left (by rw [E.len]; omega)]
    simp
  | x :: xs, i + 1, j, h, hj => by
    have := flat_at xs i j (by simpa using h) hj
    rw [flat_cons, List.getElem?_append_right (by rw [E.len, Nat.add_mul]; omega), E.len, show (i + 1) * E.sz + j - E.sz = i * E.sz + j from by rw [Nat.add_mul]; omega, this]
    simp
theorem flat_take (xs : List α) (n : Nat) : E.flat (xs.take n) = (E.flat xs).take (n * E.sz) := by
  induction xs generalizing n with
  | nil => simp [flat]
  | cons x xs ih =>
    cases n with
    | zero => simp [flat]
    | succ n =>
      rw [List.take_succ_cons, flat_cons, flat_cons, ih, Nat.add_mul, Nat.one_mul, Nat.add_comm, List.take_append, E.len, Nat.add_sub_cancel_left]
      rw [List.take_of_length_le (l := E.e x) (by rw [E.len]; omega)]
theorem flat_drop (xs : List α) (n : Nat) : E.flat (xs.drop n) = (E.flat xs).drop (n * E.sz) := by
  induction xs generalizing n with
  | nil => simp [flat]
  | cons x xs ih =>
    cases n with
    | zero => simp [flat]
    | succ n =>
      rw [List.drop_succ_cons, flat_cons, ih, Nat.add_mul, Nat.one_mul, Nat.add_comm, List.drop_append, E.len, Nat.add_sub_cancel_left]
      rw [List.drop_of_length_le (l := E.e x) (by rw [E.len]; omega)]
      simp
theorem flat_one (xs : List α) : ∀ u ∈ E.flat xs, u.oneCell' = true := by
  have key : ∀ vs : List Value, oneAll vs = true → ∀ u ∈ vs, u.oneCell' = true := by
    intro vs
    induction vs with
    | nil => simp
    | cons v vs ih =>
      intro h
      simp only [oneAll, Bool.and_eq_true] at h
      intro u hu
      rcases List.mem_cons.1 hu with rfl | hu
      · exact h.1
      · exact ih h.2 u hu
  intro u hu
  obtain ⟨x, _, hx⟩ := List.mem_flatMap.1 hu
  exact key _ (E.one x) u hx
end Enc

/-- a row that can be read -/
structure Rd (E : Enc α) (L : List HP) (a : Option Addr) (xs : List α) : Prop where
  ad : Ad a xs.length
  at_ : ∀ w, Sat w L → ∀ j v, (E.flat xs)[j]? = some v → w.cell? ⟨blk a, off a + j, none⟩ = some v
variable {E : Enc α} {L M : List HP} {a : Option Addr} {xs ys : List α}
theorem Rd.ent (h : Rd E L a xs) (k : Ent M L) : Rd E M a xs := ⟨h.ad, fun w s => h.at_ w (k w s)⟩
theorem Rd.cons {A : HP} (h : Rd E L a xs) : Rd E (A :: L) a xs := h.ent fun _ s => s.tail
theorem Rd.app (h : Rd E L a xs) : Rd E (M ++ L) a xs := h.ent fun _ s => s.right
theorem Rd.nil {a : Option Addr} : Rd E L a [] := ⟨fun h => (h rfl).elim, fun w s j v h => by simp [Enc.flat] at h⟩
theorem Rd.take (h : Rd E L a xs) (n : Nat) : Rd E L a (xs.take n) :=
  ⟨h.ad.mono (by simp; omega), fun w s j v hv => h.at_ w s j v (by
    rw [E.flat_take, List.getElem?_take] at hv
    split at hv
    · exact hv
    · simp at hv)⟩
/-- a slice of a slice, from l on -/
def from_ (a : Option Addr) (cap l sz : Nat) : Option Addr := if cap = l then a else a.map (·.add (l * sz))
theorem from_pos {a : Option Addr} {n l cap sz : Nat} (h : Ad a n) (hl : l < n) (hc : n ≤ cap) : from_ a cap l sz = some ⟨blk a, off a + l * sz, none⟩ := by
  unfold from_
  rw [if_neg (by omega)]
  have := h (by omega)
  rw [this]
  simp only [Option.map_some, blk, off]
  rw [add_of]
theorem Ad.from {a : Option Addr} {n l cap sz : Nat} (h : Ad a n) (hc : n ≤ cap) : Ad (from_ a cap l sz) (n - l) := fun h0 => by
  rw [from_pos h (by omega) hc]
  rfl
theorem Rd.drop (h : Rd E L a xs) (l cap : Nat) (hc : xs.length ≤ cap) : Rd E L (from_ a cap l E.sz) (xs.drop l) := by
  refine ⟨by rw [List.length_drop]; exact h.ad.from hc, fun w s j v hv => ?_⟩
  by_cases hl : l < xs.length
  · rw [from_pos h.ad hl hc]
    rw [E.flat_drop, List.getElem?_drop] at hv
    have := h.at_ w s _ _ hv
    simp only [blk, off, Nat.add_assoc] at this ⊢
    exact this
  · rw [List.drop_of_length_le (by omega)] at hv
    simp [Enc.flat] at hv

/-- a row of one's own: it may be written, and grown -/
def own (E : Enc α) (t : TypeId) (a : Option Addr) (c : Nat) (xs : List α) : HP := fun _ h =>
  c ≤ maxLen ∧ Ad a xs.length ∧ ((a = none ∧ c = 0 ∧ xs = [] ∧ h = []) ∨
    ∃ b sp, a = some ⟨b, 0, none⟩ ∧ h = [(b, .cells (E.flat xs ++ sp).toArray t (0, 0))] ∧ xs.length * E.sz + sp.length = c * E.sz)

theorem Sat.own {w : World} {t : TypeId} {c : Nat} (s : Sat w L) (i : Nat) (hi : L[i]? = some (own E t a c xs)) :
    c ≤ maxLen ∧ Ad a xs.length ∧ ((a = none ∧ c = 0 ∧ xs = []) ∨
    ∃ b sp, a = some ⟨b, 0, none⟩ ∧ w.heap[b]? = some (.cells (E.flat xs ++ sp).toArray t (0, 0)) ∧ xs.length * E.sz + sp.length = c * E.sz) := by
  obtain ⟨h, ⟨h1, h2, h3⟩, ok⟩ := s.at i hi
  refine ⟨h1, h2, ?_⟩
  rcases h3 with ⟨e1, e2, e3, rfl⟩ | ⟨b, sp, e1, rfl, e3⟩
  · exact .inl ⟨e1, e2, e3⟩
  · exact .inr ⟨b, sp, e1, ok.on (b, _) (by simp), e3⟩
theorem Rd.own {t : TypeId} {c : Nat} (i : Nat) (hi : L[i]? = some (Eng.own E t a c xs)) (had : Ad a xs.length) : Rd E L a xs := by
  refine ⟨had, fun w s j v hv => ?_⟩
  obtain ⟨_, _, h⟩ := s.own i hi
  rcases h with ⟨_, _, rfl⟩ | ⟨b, sp, rfl, hb, _⟩
  · simp [Enc.flat] at hv
  · have hj : j < (E.flat xs).length := by
      rcases Nat.lt_or_ge j (E.flat xs).length with h | h
      · exact h
      · rw [List.getElem?_eq_none h] at hv; simp at hv
    refine cell_of hb ?_
    simp only [off, Nat.zero_add, List.getElem?_toArray]
    rw [List.getElem?_append_left hj]
    exact hv
/-- a row of cells that holds just these elements -/
theorem Rd.ptc {t : TypeId} {b : Nat} {cs : List Value} (i : Nat) (hi : L[i]? = some (Eng.ptc b t cs)) (xs : List α) (hx : cs = E.flat xs) : Rd E L (some ⟨b, 0, none⟩) xs := by
  refine ⟨fun _ => rfl, fun w s j v hv => ?_⟩
  refine cell_of (s.pto i hi) ?_
  simpa [off, hx] using hv

theorem sat_set_own {w : World} {t : TypeId} {b : Nat} {c : Nat} {cs : List Value} (i : Nat) (hi : L[i]? = some (Eng.ptc b t cs)) (hx : ∃ sp, cs = E.flat xs ++ sp ∧ xs.length * E.sz + sp.length = c * E.sz) (hc : c ≤ maxLen)
    (s : Sat w L) : Sat w (L.set i (own E t (some ⟨b, 0, none⟩) c xs)) := by
  obtain ⟨sp, rfl, hl⟩ := hx
  refine s.weak i hi fun h hh => ?_
  have hh : h = [(b, .cells (E.flat xs ++ sp).toArray t (0, 0))] := hh
  exact ⟨hc, fun _ => rfl, .inr ⟨b, sp, rfl, hh, hl⟩⟩
theorem Ent.own {t : TypeId} {b : Nat} {cs : List Value} (xs : List α) (hx : cs = E.flat xs) (hc : xs.length ≤ maxLen) : Ent (Eng.ptc b t cs :: L) (Eng.own E t (some ⟨b, 0, none⟩) xs.length xs :: L) := fun w s =>
  sat_set_own 0 rfl ⟨[], by simp [hx], by simp⟩ hc s
theorem Ent.nil {t : TypeId} : Ent L (Eng.own E t none 0 [] :: L) := fun w s => by
  obtain ⟨h, hp, ok⟩ := s
  exact ⟨h, ⟨[], h, rfl, ⟨Nat.zero_le _, fun h => (h rfl).elim, .inl ⟨rfl, rfl, rfl, rfl⟩⟩, hp⟩, ok⟩

/-! reading an element -/
theorem Ix.ad {n : Int} {len sz : Nat} {K : Addr → Prop} (had : Ad a len) (hb : 0 ≤ n ∧ n < len) (k : K ⟨blk a, off a + n.toNat * sz, none⟩) : Ix a len n sz K := by
  have := had (by omega)
  refine ⟨_, this, hb.1, hb.2, ?_⟩
  rw [add_of]
  exact k
theorem Ld.rd {n : Int} {j sz : Nat} {v : Value} {K : Value → Prop} (hr : Rd E L a xs) (hs : E.sz = sz) (hb : 0 ≤ n ∧ n < xs.length) (hv : (E.e (xs.getD n.toNat E.d))[j]? = some v) (k : K v) :
    Ld L ⟨blk a, off a + n.toNat * sz + j, none⟩ K := by
  subst hs
  refine ⟨v, fun w s => ?_, k⟩
  have hj : j < E.sz := by
    rw [← E.len (xs.getD n.toNat E.d)]
    exact (List.getElem?_eq_some_iff.1 hv).1
  rw [Nat.add_assoc]
  exact hr.at_ w s _ _ (by rw [E.flat_at xs _ _ (by omega) hj]; exact hv)
theorem Ld.rd0 {n : Int} {sz : Nat} {v : Value} {K : Value → Prop} (hr : Rd E L a xs) (hs : E.sz = sz) (hb : 0 ≤ n ∧ n < xs.length) (hv : (E.e (xs.getD n.toNat E.d))[0]? = some v) (k : K v) :
    Ld L ⟨blk a, off a + n.toNat * sz, none⟩ K := Ld.rd (j := 0) hr hs hb hv k
theorem LdN.rd {n : Int} {m sz : Nat} {K : List Value → Prop} (hr : Rd E L a xs) (hs : E.sz = sz) (hm : m = sz) (hb : 0 ≤ n ∧ n < xs.length) (k : K (E.e (xs.getD n.toNat E.d))) :
    LdN L ⟨blk a, off a + n.toNat * sz, none⟩ m K := by
  subst hm hs
  refine ⟨_, E.len _, fun w s j u hu => ?_, k⟩
  have hj : j < E.sz := by
    rw [← E.len (xs.getD n.toNat E.d)]
    exact (List.getElem?_eq_some_iff.1 hu).1
  rw [add_of, Nat.add_assoc]
  exact hr.at_ w s _ _ (by rw [E.flat_at xs _ _ (by omega) hj]; exact hu)

theorem Ld.rdk {k j sz : Nat} {v : Value} {K : Value → Prop} (hr : Rd E L a xs) (hs : E.sz = sz) (hb : k < xs.length) (hv : (E.e (xs.getD k E.d))[j]? = some v) (kk : K v) :
    Ld L ⟨blk a, off a + (k : Int).toNat * sz + j, none⟩ K := Ld.rd (n := (k : Int)) hr hs (by omega) hv kk
theorem Ld.rdk0 {k sz : Nat} {v : Value} {K : Value → Prop} (hr : Rd E L a xs) (hs : E.sz = sz) (hb : k < xs.length) (hv : (E.e (xs.getD k E.d))[0]? = some v) (kk : K v) :
    Ld L ⟨blk a, off a + (k : Int).toNat * sz, none⟩ K := Ld.rd (j := 0) (n := (k : Int)) hr hs (by omega) hv kk
theorem LdN.rdk {k m sz : Nat} {K : List Value → Prop} (hr : Rd E L a xs) (hs : E.sz = sz) (hm : m = sz) (hb : k < xs.length) (kk : K (E.e (xs.getD k E.d))) :
    LdN L ⟨blk a, off a + (k : Int).toNat * sz, none⟩ m K := LdN.rd (n := (k : Int)) hr hs hm (by omega) kk

/-! writing an element of one's own -/
theorem ovr_app {cs ds vs : List Value} {o : Nat} (h : o + vs.length ≤ cs.length) : ovr (cs ++ ds) o vs = ovr cs o vs ++ ds := by
  induction cs generalizing o vs with
  | nil => simp at h; obtain ⟨rfl, h⟩ := h; subst h; cases ds <;> simp [ovr]
  | cons c cs ih =>
    cases o with
    | zero =>
      cases vs with
      | nil => cases cs <;> simp [ovr]
      | cons v vs => simp only [List.cons_append, ovr]; rw [ih (by simpa using h)]
    | succ o => simp only [List.cons_append, ovr]; rw [ih (by simp at h; omega)]
theorem ovr_right {cs ds vs : List Value} {o : Nat} : ovr (cs ++ ds) (cs.length + o) vs = cs ++ ovr ds o vs := by
  induction cs with
  | nil => simp
  | cons c cs ih => rw [List.cons_append, List.length_cons, Nat.add_right_comm]; simp only [ovr, List.cons_append]; rw [ih]
theorem flat_set (xs : List α) (i j : Nat) (x : α) (vs : List Value) (hi : i < xs.length) (hx : E.e x = ovr (E.e (xs.getD i E.d)) j vs) (hj : j + vs.length ≤ E.sz) :
    E.flat (xs.set i x) = ovr (E.flat xs) (i * E.sz + j) vs := by
  induction xs generalizing i with
  | nil => simp at hi
  | cons y xs ih =>
    cases i with
    | zero =>
      simp only [List.set_cons_zero, E.flat_cons, Nat.zero_mul, Nat.zero_add]
      rw [ovr_app (by rw [E.len]; exact hj), hx]
      simp
    | succ i =>
      simp only [List.set_cons_succ, E.flat_cons]
      have e : (i + 1) * E.sz + j = (E.e y).length + (i * E.sz + j) := by rw [E.len, Nat.add_mul]; omega
      rw [e, ovr_right, ih i (by simpa using hi) (by simpa using hx)]
theorem oneAll_mem {vs : List Value} (h : ∀ u ∈ vs, u.oneCell' = true) : oneAll vs = true := by
  induction vs with
  | nil => rfl
  | cons v vs ih => simp only [oneAll, Bool.and_eq_true]; exact ⟨h v (by simp), ih fun u hu => h u (by simp [hu])⟩
theorem Sat.ex {w : World} {L : List HP} {β : Type} {B : β → HP} (s : Sat w L) (i : Nat) {A : HP} (hi : L[i]? = some A) (h : ∀ c, A (World.out w) c → ∃ x, B x (World.out w) c) : ∃ x, Sat w (L.set i (B x)) := by
  obtain ⟨c, hp, ok⟩ := s
  suffices ∃ x, Parts (World.out w) (L.set i (B x)) c by
    obtain ⟨x, hx⟩ := this; exact ⟨x, c, hx, ok⟩
  clear ok
  induction L generalizing i c with
  | nil => simp at hi
  | cons C L ih =>
    obtain ⟨h1, h2, rfl, ha, hl⟩ := hp
    cases i with
    | zero => simp at hi; subst hi; obtain ⟨x, hx⟩ := h _ ha; exact ⟨x, h1, h2, rfl, hx, hl⟩
    | succ i => obtain ⟨x, hx⟩ := ih i (by simpa using hi) h2 hl; exact ⟨x, h1, h2, rfl, ha, hx⟩
def ownB (E : Enc α) (t : TypeId) (b c : Nat) (xs : List α) (sp : List Value) : HP := fun _ h => h = [(b, .cells (E.flat xs ++ sp).toArray t (0, 0))] ∧ xs.length * E.sz + sp.length = c * E.sz
theorem own_open {w : World} {t : TypeId} {c : Nat} (s : Sat w L) (i : Nat) (hi : L[i]? = some (own E t a c xs)) :
    (a = none ∧ c = 0 ∧ xs = []) ∨ ∃ b sp, a = some ⟨b, 0, none⟩ ∧ xs.length * E.sz + sp.length = c * E.sz ∧ c ≤ maxLen ∧ Sat w (L.set i (Eng.ptc b t (E.flat xs ++ sp))) := by
  obtain ⟨hc, had, h⟩ := s.own i hi
  rcases h with h | ⟨b, sp, rfl, hb', hl⟩
  · exact .inl h
  · obtain ⟨sp, s1⟩ := s.ex (B := ownB E t b c xs) i hi (fun h hh => by
      obtain ⟨_, _, hh⟩ := hh
      rcases hh with ⟨e, _⟩ | ⟨b2, sp2, e1, e2, e3⟩
      · cases e
      · cases e1
        exact ⟨sp2, e2, e3⟩)
    have hi1 := List.getElem?_set_self (l := L) (i := i) (a := ownB E t b c xs sp) (List.getElem?_eq_some_iff.1 hi).1
    obtain ⟨_, ⟨_, e3⟩, _⟩ := s1.at i hi1
    have s2 := s1.weak (B := Eng.ptc b t (E.flat xs ++ sp)) i hi1 (fun h hh => hh.1)
    rw [List.set_set] at s2
    exact .inr ⟨b, sp, rfl, e3, hc, s2⟩
theorem St.ownj {t : TypeId} {c : Nat} {n : Int} {j sz : Nat} {vs : List Value} {K : List HP → Prop} (i : Nat) (hi : L[i]? = some (own E t a c xs)) (hs : E.sz = sz) (hb : 0 ≤ n ∧ n < xs.length) (x : α)
    (hx : E.e x = ovr (E.e (xs.getD n.toNat E.d)) j vs) (hj : j + vs.length ≤ E.sz) (h1 : oneAll vs = true) (k : lsetK L i (own E t a c (xs.set n.toNat x)) K) :
    St P L ⟨blk a, off a + n.toNat * sz + j, none⟩ vs K := by
  subst hs
  rw [lsetK_eq] at k
  refine ⟨_, fun w s => ?_, k⟩
  have hlt := (List.getElem?_eq_some_iff.1 hi).1
  rcases own_open s i hi with ⟨_, _, rfl⟩ | ⟨b, sp, rfl, hl, hc, s1⟩
  · simp at hb; omega
  · have hfit : n.toNat * E.sz + j + vs.length ≤ (E.flat xs).length := by
      rw [E.flat_len]
      have : n.toNat + 1 ≤ xs.length := by omega
      have := Nat.mul_le_mul_right E.sz this
      rw [Nat.add_mul] at this
      omega
    obtain ⟨w', hr, s2⟩ := store_all (P := P) vs (n.toNat * E.sz + j) 0 _ w _ i (List.getElem?_set_self hlt) s1 (by rw [List.length_append]; omega) h1
    rw [List.set_set, Nat.add_zero, ovr_app hfit, ← flat_set xs n.toNat j x vs (by omega) hx hj] at s2
    have e0 : (⟨blk (some ⟨b, 0, none⟩), off (some ⟨b, 0, none⟩) + n.toNat * E.sz + j, none⟩ : Addr) = ⟨b, n.toNat * E.sz + j, none⟩ := by simp [blk, off]
    rw [e0]
    refine ⟨w', hr, ?_⟩
    have s3 := sat_set_own (E := E) (xs := xs.set n.toNat x) (c := c) i (List.getElem?_set_self hlt) ⟨sp, rfl, by rw [List.length_set]; exact hl⟩ hc s2
    rw [List.set_set] at s3
    exact s3
theorem St.own0 {t : TypeId} {c : Nat} {n : Int} {sz : Nat} {vs : List Value} {K : List HP → Prop} (i : Nat) (hi : L[i]? = some (own E t a c xs)) (hs : E.sz = sz) (hb : 0 ≤ n ∧ n < xs.length) (x : α)
    (hx : E.e x = ovr (E.e (xs.getD n.toNat E.d)) 0 vs) (hj : vs.length ≤ E.sz) (h1 : oneAll vs = true) (k : lsetK L i (own E t a c (xs.set n.toNat x)) K) :
    St P L ⟨blk a, off a + n.toNat * sz, none⟩ vs K := St.ownj (j := 0) i hi hs hb x hx (by omega) h1 k

theorem St.ownjk {t : TypeId} {c m : Nat} {j sz : Nat} {vs : List Value} {K : List HP → Prop} (i : Nat) (hi : L[i]? = some (own E t a c xs)) (hs : E.sz = sz) (hb : m < xs.length) (x : α)
    (hx : E.e x = ovr (E.e (xs.getD m E.d)) j vs) (hj : j + vs.length ≤ E.sz) (h1 : oneAll vs = true) (k : lsetK L i (own E t a c (xs.set m x)) K) :
    St P L ⟨blk a, off a + (m : Int).toNat * sz + j, none⟩ vs K := St.ownj (n := (m : Int)) i hi hs (by omega) x hx hj h1 k
theorem St.own0k {t : TypeId} {c m : Nat} {sz : Nat} {vs : List Value} {K : List HP → Prop} (i : Nat) (hi : L[i]? = some (own E t a c xs)) (hs : E.sz = sz) (hb : m < xs.length) (x : α)
    (hx : E.e x = ovr (E.e (xs.getD m E.d)) 0 vs) (hj : vs.length ≤ E.sz) (h1 : oneAll vs = true) (k : lsetK L i (own E t a c (xs.set m x)) K) :
    St P L ⟨blk a, off a + (m : Int).toNat * sz, none⟩ vs K := St.own0 (n := (m : Int)) i hi hs (by omega) x hx hj h1 k

/-! growing -/
theorem und_of {t : TypeId} {i : TyI} (h : TyOk P t i) {e : TypeId} (hd : i.d = .slice e) : P.underlying t = some (.slice e) := by
  obtain ⟨D, hD, hb, _⟩ := h.und
  rw [hD]
  rw [hd] at hb
  cases D <;> simp [bare] at hb
  · rw [hb]
theorem sat_new {w w' : World} {t : TypeId} {c : Nat} (s : Sat w L) (hc : c ≤ maxLen) (sp : List Value) (hl : xs.length * E.sz + sp.length = c * E.sz) (d : World) (hd : d.heap = w.heap) (hdo : World.out d = World.out w)
    (hw : w' = d.alloc (.cells (E.flat xs ++ sp).toArray t)) : Sat w' (own E t (some ⟨w.heap.size, 0, none⟩) c xs :: L) := by
  subst hw
  have s1 : Sat d L := s.heap hd hdo
  have s2 := s1.alloc (.cells (E.flat xs ++ sp).toArray t)
  rw [hd] at s2
  exact sat_set_own (c := c) 0 rfl ⟨sp, rfl, hl⟩ hc s2

theorem Sm.app (hτ : TysOk P τ) {st et ty : TypeId} {si ei : TyI} {n c m c' : Nat} {a' : Option Addr} {K : Value → List HP → Prop}
    (hL : Ent L (own E et a c xs :: M)) (hr : Rd E L a' ys) (hs : τ[st]? = some (some si)) (hsd : si.d = .slice et) (he : τ[et]? = some (some ei)) (hz : ei.size = E.sz)
    (hn : n = xs.length) (hm : m = ys.length) (hmax : (xs.length + ys.length : Nat) ≤ (4611686018427387904 : Nat)) (hb : (xs.length + ys.length) * ei.bytes ≤ 140737488355328)
    (k : ∀ a2 c2, (xs ++ ys).length ≤ c2 → Ad a2 (xs ++ ys).length → K (.slice a2 (xs ++ ys).length c2) (own E et a2 c2 (xs ++ ys) :: M)) :
    Sm P (Builtin.append_ #[st, st] ty #[.slice a n c, .slice a' m c']) L K := by
  subst hn hm
  refine ⟨fun w s => ?_⟩
  have s1 := hL w s
  have hst := und_of (hτ _ _ hs) hsd
  obtain ⟨inf, hi, hsize, hby, hzero⟩ := (hτ _ _ he).info
  have hzl : ei.zero.cells.size = ei.size := (hτ _ _ he).zl
  have hmx : maxLen = 9223372036854775807 := rfl
  by_cases hy : ys = []
  · -- nothing is put to it
    subst hy
    refine ⟨.slice a xs.length c, w, _, ?_, s1, ?_⟩
    · have hcap : xs.length ≤ c := by
        obtain ⟨_, _, h⟩ := s1.own 0 rfl
        rcases h with ⟨_, _, rfl⟩ | ⟨b, sp, _, _, hl⟩
        · simp
        · have : xs.length * E.sz ≤ c * E.sz := by omega
          exact Nat.le_of_mul_le_mul_right this E.pos
      cases a' <;> cases a <;> simp [Builtin.append_, run_underlying hst, sizeOf, typeInfo, hi, Builtin.lenOf, Builtin.firstCells, loadCells, loadCellsFrom, storeCells, hcap]
    · have := k a c
      rw [List.append_nil] at this
      obtain ⟨_, had, h⟩ := s1.own 0 rfl
      refine this ?_ had
      rcases h with ⟨_, _, rfl⟩ | ⟨b, sp, _, _, hl⟩
      · simp
      · have : xs.length * E.sz ≤ c * E.sz := by omega
        exact Nat.le_of_mul_le_mul_right this E.pos
  · have hy0 : ys.length ≠ 0 := fun h => hy (List.eq_nil_of_length_eq_zero h)
    have ha' := hr.ad hy0
    have hnews : ∀ j v, (E.flat ys)[j]? = some v → w.cell? ((⟨blk a', off a', none⟩ : Addr).add j) = some v := fun j v hv => by rw [add_of]; exact hr.at_ w s j v hv
    rw [ha']
    obtain ⟨v', w', hrun, hown, hgr, _⟩ : ∃ v' w', (Builtin.append_ #[st, st] ty #[.slice a xs.length c, .slice (some ⟨blk a', off a', none⟩) ys.length c']).run P w = .ok v' w' ∧
        (∃ a2 c2, v' = .slice a2 (xs ++ ys).length c2 ∧ (xs ++ ys).length ≤ c2 ∧ Ad a2 (xs ++ ys).length ∧ Sat w' (own E et a2 c2 (xs ++ ys) :: M)) ∧ True ∧ True := by
      have grow : ∀ (old : Nat), old < xs.length + ys.length → (∃ w', w' = w.drew.alloc (.cells (E.flat (xs ++ ys) ++ (Builtin.zeroCells ei.zero.cells (grownCap w (xs.length + ys.length) old et - (xs.length + ys.length))).toList).toArray et) ∧
          Sat w' (own E et (some ⟨w.heap.size, 0, none⟩) (grownCap w (xs.length + ys.length) old et) (xs ++ ys) :: M)) := by
        intro old ho
        have hge := grownCap_ge w (xs.length + ys.length) old et
        have hcm : grownCap w (xs.length + ys.length) old et ≤ maxLen := grownCap_le_maxLen w (xs.length + ys.length) old et (by omega)
        refine ⟨_, rfl, sat_new s1.tail hcm _ ?_ w.drew rfl rfl rfl⟩
        have hzc : (Builtin.zeroCells ei.zero.cells (grownCap w (xs.length + ys.length) old et - (xs.length + ys.length))).toList.length = (grownCap w (xs.length + ys.length) old et - (xs.length + ys.length)) * E.sz := by
          rw [Array.length_toList, size_zeroCells, hzl, hz]
        rw [hzc, ← Nat.add_mul, List.length_append]
        congr 1; omega
      rcases own_open s1 0 rfl with ⟨rfl, rfl, rfl⟩ | ⟨b, sp, rfl, hl, hcm, s2⟩
      · have hrr := run_append_nil (P := P) w st ty et inf ei.zero hst hi hzero ⟨blk a', off a', none⟩ ys.length c' (E.flat ys) (by rw [E.flat_len, hsize, hz]) hnews (by omega) (by omega) (by rw [hby]; simp at hb; omega)
        obtain ⟨w', hw, sw⟩ := grow 0 (by simp; omega)
        simp only [List.length_nil, Nat.zero_add, List.nil_append] at hw sw ⊢
        refine ⟨_, w', by rw [hrr, hw]; congr 3; apply Array.ext'; simp, ⟨_, _, rfl, grownCap_ge w _ _ et, fun _ => rfl, sw⟩, trivial, trivial⟩
      · by_cases hroom : xs.length + ys.length ≤ c
        · have hg := s2.pto 0 rfl
          have hfit : xs.length * inf.size + (E.flat ys).length ≤ (E.flat xs ++ sp).toArray.size := by
            rw [List.size_toArray, List.length_append, E.flat_len, E.flat_len, hsize, hz, ← Nat.add_mul, hl]
            exact Nat.mul_le_mul_right _ hroom
          have hrr := run_append_room (P := P) w st ty et inf hst hi b xs.length c _ hg ⟨blk a', off a', none⟩ ys.length c' (E.flat ys) (by rw [E.flat_len, hsize, hz]) hnews (E.flat_one ys) hroom hfit
          refine ⟨_, _, hrr, ⟨_, _, by rw [List.length_append], by rw [List.length_append]; exact hroom, fun _ => rfl, ?_⟩, trivial, trivial⟩
          have s3 := s2.turn 0 (b := b) (o' := .cells ((E.flat xs ++ sp).toArray.toList.take (xs.length * inf.size) ++ E.flat ys ++ (E.flat xs ++ sp).toArray.toList.drop (xs.length * inf.size + (E.flat ys).length)).toArray et (0, 0)) rfl
            (setRow_heap w b _ _ et _ hg) (fun c hc => setRow_other w b c _ hc) rfl
          have hfl : (E.flat xs).length = xs.length * inf.size := by rw [E.flat_len, hsize, hz]
          have e1 : ((E.flat xs ++ sp).toArray.toList.take (xs.length * inf.size) ++ E.flat ys ++ (E.flat xs ++ sp).toArray.toList.drop (xs.length * inf.size + (E.flat ys).length)) = E.flat (xs ++ ys) ++ sp.drop (E.flat ys).length := by
            simp only [← hfl]
            rw [List.take_left, E.flat_append, List.drop_append]
            congr 1
            rw [List.drop_of_length_le (by omega)]
            simp
          rw [e1] at s3
          have s4 : Sat (w.setRow b (E.flat (xs ++ ys) ++ sp.drop (E.flat ys).length).toArray) (Eng.ptc b et (E.flat (xs ++ ys) ++ sp.drop (E.flat ys).length) :: M) := s3
          rw [e1]
          refine sat_set_own (c := c) 0 rfl ⟨_, rfl, ?_⟩ hcm s4
          have := Nat.mul_le_mul_right E.sz hroom
          rw [Nat.add_mul] at this
          rw [List.length_append, List.length_drop, E.flat_len, Nat.add_mul]
          omega
        · have hro := Rd.own (E := E) (xs := xs) (a := some ⟨b, 0, none⟩) (L := own E et (some ⟨b, 0, none⟩) c xs :: M) 0 rfl (fun _ => rfl)
          have hrr := run_append_grow (P := P) w st ty et inf ei.zero hst hi hzero ⟨b, 0, none⟩ xs.length c (E.flat xs) (by rw [E.flat_len, hsize, hz])
            (fun j v hv => by rw [add_of]; exact hro.at_ w s1 j v hv) ⟨blk a', off a', none⟩ ys.length c' (E.flat ys) (by rw [E.flat_len, hsize, hz]) hnews (by omega) (by omega) (growslice_fits (by omega) (by rw [hby]; exact hb))
          obtain ⟨w', hw, sw⟩ := grow c (by omega)
          refine ⟨_, w', by rw [hrr, hw]; simp only [E.flat_append]; congr 3; apply Array.ext'; simp, ⟨_, _, by rw [List.length_append], by rw [List.length_append]; exact grownCap_ge w _ _ et, fun _ => rfl, sw⟩, trivial, trivial⟩
    obtain ⟨a2, c2, rfl, h1, h2, h3⟩ := hown
    exact ⟨_, w', _, hrun, h3, k a2 c2 h1 h2⟩

/-- append to a row of one's own, wherever it stands -/
theorem Sm.appAt (hτ : TysOk P τ) {st et ty : TypeId} {si ei : TyI} {n c m c' : Nat} {a' : Option Addr} {K : Value → List HP → Prop} (i : Nat) (hi : L[i]? = some (own E et a c xs)) (hm : m = ys.length)
    (hr : Rd E L a' ys) (hs : τ[st]? = some (some si)) (hsd : si.d = .slice et) (he : τ[et]? = some (some ei)) (hz : ei.size = E.sz)
    (hn : n = xs.length) (hby : Nat.ble ei.bytes 4096 = true) (hmax : xs.length + ys.length ≤ 34359738368)
    (k : ∀ a2 c2, (xs ++ ys).length ≤ c2 → Ad a2 (xs ++ ys).length → ldelK L i fun M => K (.slice a2 (xs ++ ys).length c2) (own E et a2 c2 (xs ++ ys) :: M)) :
    Sm P (Builtin.append_ #[st, st] ty #[.slice a n c, .slice a' m c']) L K := by
  have hby := Nat.le_of_ble_eq_true hby
  refine Sm.app (M := L.eraseIdx i) hτ (fun w s => s.perm (perm_at L i hi)) hr hs hsd he hz hn hm (by omega) ?_ (fun a2 c2 h1 h2 => ?_)
  · exact Nat.le_trans (Nat.mul_le_mul hmax hby) (by decide)
  · have := k a2 c2 h1 h2
    rwa [ldelK_eq] at this
theorem Sm.appNil (hτ : TysOk P τ) {st et ty : TypeId} {si ei : TyI} {m c' : Nat} {a' : Option Addr} {K : Value → List HP → Prop} (hm : m = ys.length)
    (hr : Rd E L a' ys) (hs : τ[st]? = some (some si)) (hsd : si.d = .slice et) (he : τ[et]? = some (some ei)) (hz : ei.size = E.sz)
    (hby : Nat.ble ei.bytes 4096 = true) (hmax : ys.length ≤ 34359738368)
    (k : ∀ a2 c2, ys.length ≤ c2 → Ad a2 ys.length → K (.slice a2 ys.length c2) (own E et a2 c2 ys :: L)) :
    Sm P (Builtin.append_ #[st, st] ty #[.slice none 0 0, .slice a' m c']) L K := by
  have hby := Nat.le_of_ble_eq_true hby
  refine Sm.app (xs := []) (M := L) hτ Ent.nil hr hs hsd he hz rfl hm (by simp; omega) ?_ (fun a2 c2 h1 h2 => k a2 c2 h1 h2)
  rw [List.length_nil, Nat.zero_add]
  exact Nat.le_trans (Nat.mul_le_mul hmax hby) (by decide)
theorem Sm.appNew (hτ : TysOk P τ) {st et ty : TypeId} {si ei : TyI} {m c' b : Nat} {a' : Option Addr} {K : Value → List HP → Prop} (i : Nat) (hi : L[i]? = some (Eng.ptc b et [])) (hm : m = ys.length)
    (hr : Rd E L a' ys) (hs : τ[st]? = some (some si)) (hsd : si.d = .slice et) (he : τ[et]? = some (some ei)) (hz : ei.size = E.sz)
    (hby : Nat.ble ei.bytes 4096 = true) (hmax : ys.length ≤ 34359738368)
    (k : ∀ a2 c2, ys.length ≤ c2 → Ad a2 ys.length → ldelK L i fun M => K (.slice a2 ys.length c2) (own E et a2 c2 ys :: M)) :
    Sm P (Builtin.append_ #[st, st] ty #[.slice (some ⟨b, 0, none⟩) 0 0, .slice a' m c']) L K := by
  have hby := Nat.le_of_ble_eq_true hby
  refine Sm.app (E := E) (xs := []) (M := L.eraseIdx i) hτ (fun w s => Ent.own [] rfl (Nat.zero_le _) w (s.perm (perm_at L i hi))) hr hs hsd he hz rfl hm (by simp; omega) ?_ (fun a2 c2 h1 h2 => ?_)
  · rw [List.length_nil, Nat.zero_add]
    exact Nat.le_trans (Nat.mul_le_mul hmax hby) (by decide)
  · have := k a2 c2 h1 h2
    rwa [ldelK_eq] at this

/-! a part of a slice -/
theorem add_zero (a : Addr) : a.add 0 = a := rfl
theorem from_zero {cap sz : Nat} : (if cap = 0 then a else a.map (·.add (0 * sz))) = a := by
  split
  · rfl
  · cases a <;> simp [add_zero]
theorem Sub.pre {n cap sz : Nat} {lo : Option Value} {kh : IntKind} {h : Int} {K : Value → Prop} (hlo : lo = none ∨ ∃ k, lo = some (.int k 0)) (hn : n = xs.length) (hb : 0 ≤ h ∧ h ≤ n) (hc : n ≤ cap)
    (k : K (.slice a (xs.take h.toNat).length cap)) : Sub a n cap lo (some (.int kh h)) sz K := by
  subst hn
  refine ⟨0, h.toNat, ?_, ⟨kh, by rw [Int.toNat_of_nonneg hb.1]⟩, Nat.zero_le _, by omega, ?_⟩
  · rcases hlo with rfl | ⟨k0, rfl⟩
    · rfl
    · exact ⟨k0, rfl⟩
  · rw [from_zero, Nat.sub_zero, Nat.sub_zero]
    have e : (xs.take h.toNat).length = h.toNat := by rw [List.length_take]; omega
    rw [e] at k
    exact k
theorem Sub.suf {n cap sz : Nat} {kl : IntKind} {l : Int} {K : Value → Prop} (hn : n = xs.length) (hb : 0 ≤ l ∧ l ≤ n) (hc : n ≤ cap)
    (k : K (.slice (from_ a cap l.toNat sz) (xs.drop l.toNat).length (cap - l.toNat))) : Sub a n cap (some (.int kl l)) none sz K := by
  subst hn
  refine ⟨l.toNat, xs.length, ⟨kl, by rw [Int.toNat_of_nonneg hb.1]⟩, rfl, by omega, hc, ?_⟩
  rw [List.length_drop] at k
  exact k
theorem Sub.mid {n cap sz : Nat} {kl kh : IntKind} {l h : Int} {K : Value → Prop} (hn : n = xs.length) (hb : 0 ≤ l ∧ l ≤ h ∧ h ≤ n) (hc : n ≤ cap)
    (k : K (.slice (from_ a cap l.toNat sz) ((xs.take h.toNat).drop l.toNat).length (cap - l.toNat))) : Sub a n cap (some (.int kl l)) (some (.int kh h)) sz K := by
  subst hn
  refine ⟨l.toNat, h.toNat, ⟨kl, by rw [Int.toNat_of_nonneg hb.1]⟩, ⟨kh, by rw [Int.toNat_of_nonneg (by omega)]⟩, by omega, by omega, ?_⟩
  have e : ((xs.take h.toNat).drop l.toNat).length = h.toNat - l.toNat := by rw [List.length_drop, List.length_take]; omega
  rw [e] at k
  exact k

/-- a fresh row, and nothing else -/
structure New (E : Enc α) (t : TypeId) (xs : List α) (L : List HP) (v : Value) (L' : List HP) : Prop where
  is : ∃ a c, v = .slice a xs.length c ∧ xs.length ≤ c ∧ Ad a xs.length ∧ Ent L' (own E t a c xs :: L)
theorem New.of {t : TypeId} {c n : Nat} {L' : List HP} (hn : n = xs.length) (hc : xs.length ≤ c) (had : Ad a xs.length) (h : Ent L' (own E t a c xs :: L)) : New E t xs L (.slice a n c) L' := ⟨a, c, by rw [hn], hc, had, h⟩
theorem New.nil {t : TypeId} {L' : List HP} (h : Ent L' L) : New E t [] L (.slice none 0 0) L' := ⟨none, 0, rfl, Nat.le_refl _, fun h => (h rfl).elim, fun w s => Ent.nil w (h w s)⟩
theorem CN.new {f : FuncId} {args : List Value} {t : TypeId} {K : Value → List HP → Prop}
    (c : ∀ M, Con P f args (M ++ L) (New E t xs (M ++ L))) (k : ∀ a c, xs.length ≤ c → Ad a xs.length → K (.slice a xs.length c) (own E t a c xs :: L)) : CN P f args L K := by
  refine ⟨fun v N => ∃ a c, v = .slice a xs.length c ∧ xs.length ≤ c ∧ Ad a xs.length ∧ N = [own E t a c xs], fun M => (c M).mono (fun v L' h => ?_) (fun _ _ h => h), ?_⟩
  · obtain ⟨a, c, hv, h1, h2, h3⟩ := h.is
    exact ⟨_, ⟨a, c, hv, h1, h2, rfl⟩, h3.trans (Ent.perm List.perm_middle.symm)⟩
  · rintro v N ⟨a, c, rfl, h1, h2, rfl⟩
    exact k a c h1 h2
theorem CN.exs {β : Type} {f : FuncId} {args : List Value} {V : β → Value} {H : β → List HP} {R : β → Prop} {K : Value → List HP → Prop}
    (c : ∀ M, Con P f args (M ++ L) (Exs V (fun x => H x ++ (M ++ L)) R)) (k : ∀ x, R x → K (V x) (H x ++ L)) : CN P f args L K := by
  refine ⟨fun v N => ∃ x, R x ∧ v = V x ∧ N = H x, fun M => (c M).mono (fun v L' h => ?_) (fun _ _ h => h), ?_⟩
  · obtain ⟨x, r, hv, e⟩ := h.go
    refine ⟨H x, ⟨x, r, hv, rfl⟩, e.trans (Ent.perm ?_)⟩
    rw [← List.append_assoc, ← List.append_assoc]
    exact List.perm_append_comm.append_right L
  · rintro v N ⟨x, r, rfl, rfl⟩
    exact k x r
theorem Cl.new {f : FuncId} {args : List Value} {t : TypeId} {K : Value → List HP → Prop} {X : List PanicEntry → List HP → Prop}
    (c : Con P f args L (New E t xs M)) (k : ∀ a c, xs.length ≤ c → Ad a xs.length → K (.slice a xs.length c) (own E t a c xs :: M)) : Cl P f args L K X :=
  ⟨⟨c.ent, fun w s => (c.run w s).mono fun e w' => by
    cases e with
    | returned v => rintro ⟨L', s', ⟨a, c, rfl, h1, h2, h3⟩⟩; exact ⟨_, h3 _ s', k a c h1 h2⟩
    | panicked ch => rintro ⟨L', s', r⟩; exact r.elim
    | outgrown => exact id⟩⟩
theorem perm_at2 {B C : HP} (i j : Nat) (hi : L[i]? = some B) (hj : (L.eraseIdx i)[j]? = some C) : L.Perm (B :: C :: (L.eraseIdx i).eraseIdx j) :=
  (perm_at L i hi).trans ((perm_at _ j hj).cons B)
theorem Con.newAt {f : FuncId} {args : List Value} {t : TypeId} (hp : L.Perm M) (c : Con P f args M (New E t xs M)) : Con P f args L (New E t xs L) :=
  ⟨c.ent, fun w s => (c.run w (s.perm hp)).mono fun e w' => by
    cases e with
    | returned v => rintro ⟨L', s', ⟨a, c, rfl, h1, h2, h3⟩⟩; exact ⟨_, s', ⟨a, c, rfl, h1, h2, h3.trans (Ent.perm (hp.symm.cons _))⟩⟩
    | panicked ch => rintro ⟨L', s', r⟩; exact r.elim
    | outgrown => exact id⟩
theorem Con.isAt {f : FuncId} {args : List Value} {v : Value} (hp : L.Perm M) (c : Con P f args M (Is v M)) : Con P f args L (Is v L) :=
  ⟨c.ent, fun w s => (c.run w (s.perm hp)).mono fun e w' => by
    cases e with
    | returned v => rintro ⟨L', s', r⟩; exact ⟨_, s', ⟨r.v, r.l.trans (Ent.perm hp.symm)⟩⟩
    | panicked ch => rintro ⟨L', s', r⟩; exact r.elim
    | outgrown => exact id⟩
end Go.Eng
namespace Go.Eng
/-- so, whatever stands beside -/
def FEnt (L M : List HP) : Prop := ∀ K, Ent (K ++ L) (K ++ M)
theorem FEnt.ent {L M : List HP} (h : FEnt L M) : Ent L M := h []
protected theorem FEnt.rfl {L : List HP} : FEnt L L := fun _ => Ent.rfl
theorem FEnt.at {L M : List HP} {B : HP} (i : Nat) (hi : L[i]? = some B) (h : FEnt (L.eraseIdx i) M) : FEnt L (B :: M) := fun K w s => by
  have hp : (K ++ L).Perm ((K ++ [B]) ++ L.eraseIdx i) := by
    rw [List.append_assoc]
    exact (perm_at L i hi).append_left K
  have := h (K ++ [B]) w (s.perm hp)
  rwa [List.append_assoc] at this
theorem FEnt.drop {L M : List HP} {A : HP} (h : FEnt L M) : FEnt (A :: L) M := fun K w s => h K w (s.sub (List.Sublist.append (List.Sublist.refl _) (List.sublist_cons_self A L)))
theorem FEnt.own0 {α : Type} {E : Enc α} {t : TypeId} {b : Nat} {L M : List HP} (i : Nat) (hi : L[i]? = some (ptc b t [])) (h : FEnt (L.eraseIdx i) M) : FEnt L (own E t (some ⟨b, 0, none⟩) 0 [] :: M) := fun K w s => by
  have s1 := FEnt.at i hi h K w s
  refine (Ent.own (E := E) (L := K ++ M) [] rfl (Nat.zero_le _) w (s1.perm List.perm_middle)).perm List.perm_middle.symm
theorem FEnt.nil {α : Type} {E : Enc α} {t : TypeId} {L M : List HP} (h : FEnt L M) : FEnt L (own E t none 0 [] :: M) := fun K w s =>
  (Ent.nil (E := E) (t := t) w (h K w s)).perm List.perm_middle.symm
/-- two parts as one -/
def star (A B : HP) : HP := fun e h => Parts e [A, B] h
theorem FEnt.star {A B : HP} {L M : List HP} (h : FEnt L (A :: B :: M)) : FEnt L (Eng.star A B :: M) := fun K w s => by
  have s1 := h K w s
  have hp : (K ++ A :: B :: M).Perm ([A, B] ++ (K ++ M)) := by
    have e : K ++ A :: B :: M = (K ++ [A, B]) ++ M := by simp
    rw [e, ← List.append_assoc]
    exact List.perm_append_comm.append_right M
  have s2 : Sat w (Eng.star A B :: (K ++ M)) := (s1.perm hp).shut fun e c hp => hp
  exact s2.perm List.perm_middle.symm
theorem ent_star {A B : HP} {L : List HP} : Ent (Eng.star A B :: L) (A :: B :: L) := fun w s => s.opened (M := [A, B]) fun e c h => h
theorem ent_star1 {A B : HP} : Ent [Eng.star A B] [A] := fun w s => (ent_star w s).sub (by simp)
theorem ent_star2 {A B : HP} : Ent [Eng.star A B] [B] := fun w s => (ent_star w s).sub (by simp)
theorem Rd.hd {α : Type} {E : Enc α} {A : HP} {L : List HP} {a : Option Addr} {xs : List α} (h : Rd E [A] a xs) : Rd E (A :: L) a xs := h.ent fun w s => s.sub (by simp)
theorem Ent.of_eq {L M : List HP} (h : L = M) : Ent L M := h ▸ Ent.rfl
/-! rows, by their places -/
theorem getD_mem {α : Type} {xs : List α} {d : α} {k : Nat} (h : k < xs.length) : xs.getD k d ∈ xs := by
  have : xs.getD k d = xs[k] := by simp [List.getD, h]
  rw [this]; exact List.getElem_mem h
theorem all_iff {α : Type} {xs : List α} (d : α) {p : α → Prop} : (∀ x ∈ xs, p x) ↔ ∀ i, i < xs.length → p (xs.getD i d) := by
  constructor
  · intro h i hi; exact h _ (getD_mem hi)
  · intro h x hx
    obtain ⟨i, hi, rfl⟩ := List.getElem_of_mem hx
    have := h i hi
    simpa [List.getD, hi] using this
theorem ex_iff {α : Type} {xs : List α} (d : α) {p : α → Prop} : (∃ x ∈ xs, p x) ↔ ∃ i, i < xs.length ∧ p (xs.getD i d) := by
  constructor
  · rintro ⟨x, hx, hp⟩
    obtain ⟨i, hi, rfl⟩ := List.getElem_of_mem hx
    exact ⟨i, hi, by simpa [List.getD, hi] using hp⟩
  · rintro ⟨i, hi, hp⟩; exact ⟨_, getD_mem hi, hp⟩
theorem lt_step {p : Nat → Prop} {k : Nat} (h : ∀ i, i < k → p i) (hk : p k) : ∀ i, i < k + 1 → p i := fun i hi => by
  by_cases e : i = k
  · rw [e]; exact hk
  · exact h i (by omega)
theorem ext_getD {α : Type} {xs ys : List α} (d : α) (hl : xs.length = ys.length) (h : ∀ i, i < xs.length → xs.getD i d = ys.getD i d) : xs = ys := by
  refine List.ext_getElem hl fun i h1 h2 => ?_
  have := h i h1
  simpa [List.getD, h1, h2] using this
theorem getD_take {α : Type} {xs : List α} {d : α} {k i : Nat} (h : i < k) : (xs.take k).getD i d = xs.getD i d := by
  simp [List.getD, h]
theorem getD_drop {α : Type} {xs : List α} {d : α} {k i : Nat} : (xs.drop k).getD i d = xs.getD (k + i) d := by
  simp [List.getD, List.getElem?_drop]
theorem getD_mid {α : Type} {P Q : List α} {y d : α} {k : Nat} (h : k = P.length) : (P ++ y :: Q).getD k d = y := by
  subst h; simp [List.getD]
theorem set_mid {α : Type} {P Q : List α} {y z : α} {k : Nat} (h : k = P.length) : (P ++ y :: Q).set k z = P ++ z :: Q := by
  subst h; simp
end Go.Eng
