/- How what stands still is told to go on. -/
import Derived.Test.YtdjpcfaidgofoaaGreatEngCode
import Derived.IntWalk
set_option linter.all false
namespace Go.Eng
variable {P : Program} {τ : Tys}

/-- 'just this value, and no change' -/
structure Is (v : Value) (L : List HP) (v' : Value) (L' : List HP) : Prop where
  v : v' = v
  l : Ent L' L
theorem Is.rfl {v : Value} {L : List HP} : Is v L v L := ⟨Eq.refl _, Ent.rfl⟩
theorem Is.int {k : IntKind} {a b : Int} {L : List HP} (h : b = a) : Is (.int k a) L (.int k b) L := ⟨by rw [h], Ent.rfl⟩
theorem Is.bool {a b : Bool} {L : List HP} (h : b = a) : Is (.bool a) L (.bool b) L := ⟨by rw [h], Ent.rfl⟩
theorem Is.dec {p q : Prop} [Decidable p] [Decidable q] {L : List HP} (h : q ↔ p) : Is (.bool (decide p)) L (.bool (decide q)) L :=
  ⟨by rw [decide_eq_decide.2 h], Ent.rfl⟩
theorem Is.ift {p q : Prop} [Decidable p] [Decidable q] {L : List HP} (h : p ↔ q) : Is (.bool true) L (.bool (decide p == decide q)) L := ⟨by have e : decide p = decide q := decide_eq_decide.2 h; rw [e, beq_self_eq_true], Ent.rfl⟩
theorem Is.tt {p : Prop} [Decidable p] {L : List HP} (h : p) : Is (.bool (decide p)) L (.bool true) L := ⟨by rw [decide_eq_true h], Ent.rfl⟩
theorem Is.ttr {p : Prop} [Decidable p] {L : List HP} (h : p) : Is (.bool true) L (.bool (decide p)) L := ⟨by rw [decide_eq_true h], Ent.rfl⟩
theorem Is.ffr {p : Prop} [Decidable p] {L : List HP} (h : ¬ p) : Is (.bool false) L (.bool (decide p)) L := ⟨by rw [decide_eq_false h], Ent.rfl⟩
theorem Is.ff {p : Prop} [Decidable p] {L : List HP} (h : ¬ p) : Is (.bool (decide p)) L (.bool false) L := ⟨by rw [decide_eq_false h], Ent.rfl⟩
theorem Is.val {v v' : Value} {L : List HP} (h : v' = v) : Is v L v' L := ⟨h, Ent.rfl⟩
/-- what is left over is let go -/
theorem Is.drop {v v' : Value} {A : HP} {L L' : List HP} (h : Is v L v' L') : Is v L v' (A :: L') := ⟨h.v, h.l.drop⟩
theorem Is.ent {v v' : Value} {L M : List HP} (k : Ent M L) (h : Is v L v' L) : Is v L v' M := ⟨h.v, k⟩

theorem Br.tt {T F : Prop} (k : T) : Br true T F := ⟨fun _ => k, fun h => by simp at h⟩
theorem Br.ff {T F : Prop} (k : F) : Br false T F := ⟨fun h => by simp at h, fun _ => k⟩
theorem Br.ift {p q : Prop} [Decidable p] [Decidable q] {T F : Prop} (h : p ↔ q) (k : T) : Br (decide p == decide q) T F := ⟨fun _ => k, fun hf => by have e : decide p = decide q := decide_eq_decide.2 h; rw [e] at hf; simp at hf⟩
theorem Br.yes {b : Bool} {T F : Prop} (h : b = true) (k : T) : Br b T F := by subst h; exact Br.tt k
theorem Br.no {b : Bool} {T F : Prop} (h : b = false) (k : F) : Br b T F := by subst h; exact Br.ff k
theorem Br.dt {p : Prop} [Decidable p] {T F : Prop} (h : p) (k : T) : Br (decide p) T F := Br.yes (decide_eq_true h) k
theorem Br.df {p : Prop} [Decidable p] {T F : Prop} (h : ¬ p) (k : F) : Br (decide p) T F := Br.no (decide_eq_false h) k
theorem Br.ds {p : Prop} [Decidable p] {T F : Prop} (t : p → T) (f : ¬ p → F) : Br (decide p) T F := ⟨fun h => t (of_decide_eq_true h), fun h => f (of_decide_eq_false h)⟩
theorem Br.ndt {p : Prop} [Decidable p] {T F : Prop} (h : ¬ p) (k : T) : Br (!decide p) T F := Br.yes (by rw [decide_eq_false h]; rfl) k
theorem Br.ndf {p : Prop} [Decidable p] {T F : Prop} (h : p) (k : F) : Br (!decide p) T F := Br.no (by rw [decide_eq_true h]; rfl) k
theorem Br.nds {p : Prop} [Decidable p] {T F : Prop} (t : ¬ p → T) (f : p → F) : Br (!decide p) T F :=
  ⟨fun h => t (by simpa using h), fun h => f (by simpa using h)⟩
theorem Br.bs {b : Bool} {T F : Prop} (t : b = true → T) (f : b = false → F) : Br b T F := ⟨t, f⟩
theorem Br.nbs {b : Bool} {T F : Prop} (t : b = false → T) (f : b = true → F) : Br (!b) T F := ⟨fun h => t (by simpa using h), fun h => f (by simpa using h)⟩

theorem Br.nt {T F : Prop} (k : F) : Br (!true) T F := Br.ff k
theorem Br.nf {T F : Prop} (k : T) : Br (!false) T F := Br.tt k
theorem Br.eqt {a b : Bool} {T F : Prop} (h : a = b) (k : T) : Br (a == b) T F := Br.yes (by rw [h]; exact beq_self_eq_true b) k
theorem Br.eqf {a b : Bool} {T F : Prop} (h : a ≠ b) (k : F) : Br (a == b) T F := Br.no (beq_false_of_ne h) k
theorem Br.net {a b : Bool} {T F : Prop} (h : a ≠ b) (k : T) : Br (!(a == b)) T F := Br.yes (by rw [beq_false_of_ne h]; rfl) k
theorem Br.nef {a b : Bool} {T F : Prop} (h : a = b) (k : F) : Br (!(a == b)) T F := Br.no (by rw [h, beq_self_eq_true b]; rfl) k
theorem Br.sn {β : Type} {x : β} {T F : Prop} (k : F) : Br (Option.isNone (some x)) T F := Br.ff k
theorem Br.nn {β : Type} {T F : Prop} (k : T) : Br (Option.isNone (none : Option β)) T F := Br.tt k
theorem Br.nsn {β : Type} {x : β} {T F : Prop} (k : T) : Br (!Option.isNone (some x)) T F := Br.tt k
theorem Br.nnn {β : Type} {T F : Prop} (k : F) : Br (!Option.isNone (none : Option β)) T F := Br.ff k
theorem Ar.i64 {n : Int} {K : Int → Prop} (h : -9223372036854775808 ≤ n ∧ n ≤ 9223372036854775807) (k : K n) : Ar .i64 n K := ⟨by rw [IntWalk.i64_in n h]; exact k⟩
theorem Ar.u8 {n : Int} {K : Int → Prop} (h : 0 ≤ n ∧ n ≤ 255) (k : K n) : Ar .u8 n K := ⟨by rw [IntWalk.u8_in n h]; exact k⟩
theorem Ar.u8w {n : Int} {K : Int → Prop} (k : K (n % 256)) : Ar .u8 n K := ⟨by rw [IntKind.wrap_u8]; exact k⟩
theorem Ar.i32 {n : Int} {K : Int → Prop} (h : -2147483648 ≤ n ∧ n ≤ 2147483647) (k : K n) : Ar .i32 n K := ⟨by rw [IntWalk.i32_in n h]; exact k⟩
theorem Ar.u16 {n : Int} {K : Int → Prop} (h : 0 ≤ n ∧ n ≤ 65535) (k : K n) : Ar .u16 n K := ⟨by rw [IntWalk.u16_in n h]; exact k⟩
theorem Ar.u32 {n : Int} {K : Int → Prop} (h : 0 ≤ n ∧ n ≤ 4294967295) (k : K n) : Ar .u32 n K := ⟨by rw [IntWalk.u32_in n h]; exact k⟩
theorem Ar.u64 {n : Int} {K : Int → Prop} (h : 0 ≤ n ∧ n ≤ 18446744073709551615) (k : K n) : Ar .u64 n K := ⟨by rw [IntWalk.u64_in n h]; exact k⟩
theorem Bt.raw {v : Int} {K : Int → Prop} (k : K v) : Bt v K := ⟨k⟩
theorem Bt.is {v m : Int} {K : Int → Prop} (h : v = m) (k : K m) : Bt v K := ⟨by rw [h]; exact k⟩
theorem and_ones (j : Nat) (hj : j ≤ 62) (n : Int) (h : -9223372036854775808 ≤ n ∧ n ≤ 9223372036854775807) : bits .and .i64 n ((2 ^ j - 1 : Nat) : Int) = n % (2 ^ j : Nat) := by
  show IntKind.i64.wrap ((BitVec.ofInt 64 n &&& BitVec.ofInt 64 ((2 ^ j - 1 : Nat) : Int)).toNat : Int) = _
  have hp : 2 ^ j ≤ 2 ^ 62 := Nat.pow_le_pow_right (by omega) hj
  have h0 : 0 < 2 ^ j := Nat.two_pow_pos j
  have e1 : (BitVec.ofInt 64 ((2 ^ j - 1 : Nat) : Int)).toNat = 2 ^ j - 1 := by
    rw [BitVec.toNat_ofInt]
    omega
  have e : (BitVec.ofInt 64 n &&& BitVec.ofInt 64 ((2 ^ j - 1 : Nat) : Int)).toNat = (BitVec.ofInt 64 n).toNat % 2 ^ j := by
    rw [BitVec.toNat_and, e1]
    exact Nat.and_two_pow_sub_one_eq_mod _ j
  have e2 : ((BitVec.ofInt 64 n).toNat : Int) = n % (2 ^ 64 : Nat) := by
    rw [BitVec.toNat_ofInt]
    omega
  have hd : ((2 ^ j : Nat) : Int) ∣ (2 ^ 64 : Nat) := Int.natCast_dvd_natCast.2 (Nat.pow_dvd_pow 2 (by omega))
  rw [e, Int.natCast_emod, e2, Int.emod_emod_of_dvd _ hd, IntKind.wrap_i64]
  have h1 : 0 ≤ n % ((2 ^ j : Nat) : Int) := Int.emod_nonneg _ (by omega)
  have h2 : n % ((2 ^ j : Nat) : Int) < ((2 ^ j : Nat) : Int) := Int.emod_lt_of_pos _ (by omega)
  omega
theorem and255 (n : Int) (h : -9223372036854775808 ≤ n ∧ n ≤ 9223372036854775807) : bits .and .i64 n 255 = n % 256 := and_ones 8 (by decide) n h
theorem and65535 (n : Int) (h : -9223372036854775808 ≤ n ∧ n ≤ 9223372036854775807) : bits .and .i64 n 65535 = n % 65536 := and_ones 16 (by decide) n h
theorem Bt.low8 {x : Int} {K : Int → Prop} (h : -9223372036854775808 ≤ x ∧ x ≤ 9223372036854775807) (k : K (x % 256)) : Bt (bits .and .i64 x 255) K := Bt.is (and255 x h) k
theorem Bt.low16 {x : Int} {K : Int → Prop} (h : -9223372036854775808 ≤ x ∧ x ≤ 9223372036854775807) (k : K (x % 65536)) : Bt (bits .and .i64 x 65535) K := Bt.is (and65535 x h) k
theorem Bt.shr8 {x : Int} {j : IntKind} {K : Int → Prop} (k : K (x / 256)) : Bt (x.fdiv (2 ^ (min (Int.toNat 8) j.bits))) K := Bt.is (by
  have : (2 : Int) ^ (min (Int.toNat 8) j.bits) = 256 := by cases j <;> rfl
  rw [this, Int.fdiv_eq_ediv_of_nonneg x (by omega)]) k
theorem Bt.shr16 {x : Int} {K : Int → Prop} (k : K (x / 65536)) : Bt (x.fdiv (2 ^ (min (Int.toNat 16) (IntKind.bits .i64)))) K := Bt.is (by
  have : (2 : Int) ^ (min (Int.toNat 16) (IntKind.bits .i64)) = 65536 := rfl
  rw [this, Int.fdiv_eq_ediv_of_nonneg x (by omega)]) k
theorem Ar.shl8 {x : Int} {K : Int → Prop} (h : -9223372036854775808 ≤ x * 256 ∧ x * 256 ≤ 9223372036854775807) (k : K (x * 256)) : Ar .i64 (x * 2 ^ (min (Int.toNat 8) (IntKind.bits .i64))) K := Ar.i64 (n := x * 256) h k
theorem Ar.shl16 {x : Int} {K : Int → Prop} (h : -9223372036854775808 ≤ x * 65536 ∧ x * 65536 ≤ 9223372036854775807) (k : K (x * 65536)) : Ar .i64 (x * 2 ^ (min (Int.toNat 16) (IntKind.bits .i64))) K := Ar.i64 (n := x * 65536) h k
/-- a wrap that is left -/
theorem Ar.any {kd : IntKind} {n : Int} {K : Int → Prop} (k : ∀ m, m = kd.wrap n → K m) : Ar kd n K := ⟨k _ (Eq.refl _)⟩

theorem Cl.of {f : FuncId} {args : List Value} {L : List HP} {K R : Value → List HP → Prop} {X : List PanicEntry → List HP → Prop}
    (c : Con P f args L R) (k : ∀ v L', R v L' → K v L') : Cl P f args L K X := ⟨c.mono k fun _ _ h => h.elim⟩
theorem Cl.is {f : FuncId} {args : List Value} {L L' : List HP} {K : Value → List HP → Prop} {X : List PanicEntry → List HP → Prop} {v : Value}
    (c : Con P f args L (Is v L')) (k : K v L') : Cl P f args L K X :=
  ⟨⟨c.ent, fun w s => (c.run w s).mono fun e w' => by
    cases e with
    | returned v => rintro ⟨L', s', r⟩; exact ⟨_, r.l _ s', by rw [r.v]; exact k⟩
    | panicked ch => rintro ⟨L', s', r⟩; exact r.elim
    | outgrown => exact id⟩⟩
theorem Cl.ent {f : FuncId} {args : List Value} {L M : List HP} {K : Value → List HP → Prop} {X : List PanicEntry → List HP → Prop} (h : Ent L M) (c : Cl P f args M K X) : Cl P f args L K X :=
  ⟨⟨c.go.ent, fun w s => c.go.run w (h w s)⟩⟩

/-- a contract's bool, decided -/
theorem Con.dt {f : FuncId} {args : List Value} {L M : List HP} {X : List PanicEntry → List HP → Prop} {p : Prop} [Decidable p] (h : p) (c : Con P f args L (Is (.bool (decide p)) M) X) : Con P f args L (Is (.bool true) M) X := by
  rwa [decide_eq_true h] at c
theorem Con.df {f : FuncId} {args : List Value} {L M : List HP} {X : List PanicEntry → List HP → Prop} {p : Prop} [Decidable p] (h : ¬ p) (c : Con P f args L (Is (.bool (decide p)) M) X) : Con P f args L (Is (.bool false) M) X := by
  rwa [decide_eq_false h] at c
theorem Nc.go' {t : TypeId} {cs : List Value} {L : List HP} {K : Nat → List HP → Prop} (k : ∀ b, K b (ptc b t cs :: L)) : Nc t cs L K := ⟨k⟩

/-! reading and writing a block that is a part of its own -/
theorem cell_of {w : World} {b o : Nat} {cs : Array Value} {t : TypeId} {fr : Nat × Nat} {v : Value} (h : w.heap[b]? = some (.cells cs t fr)) (hv : cs[o]? = some v) : w.cell? ⟨b, o, none⟩ = some v := by
  simp [World.cell?, h, hv]
theorem Ld.at {L : List HP} {b o : Nat} {t : TypeId} {cs : List Value} {v : Value} {K : Value → Prop} (i : Nat) (hi : L[i]? = some (ptc b t cs)) (hv : cs[o]? = some v) (k : K v) : Ld L ⟨b, o, none⟩ K :=
  ⟨v, fun _ s => cell_of (s.pto i hi) (by simpa using hv), k⟩
theorem add_of {b o j : Nat} : (⟨b, o, none⟩ : Addr).add j = ⟨b, o + j, none⟩ := by
  unfold Addr.add; split <;> simp_all
theorem LdN.at {L : List HP} {b o n : Nat} {t : TypeId} {cs : List Value} {K : List Value → Prop} (i : Nat) (hi : L[i]? = some (ptc b t cs)) (hn : o + n ≤ cs.length)
    (k : K ((cs.drop o).take n)) : LdN L ⟨b, o, none⟩ n K :=
  ⟨_, by simp; omega, fun _ s j u hj => by
    rw [add_of]
    refine cell_of (s.pto i hi) ?_
    rw [List.getElem?_take] at hj
    split at hj
    · simpa using hj
    · simp at hj, k⟩

theorem store_one {w : World} {b o : Nat} {cs : List Value} {t : TypeId} {v : Value} (h : w.heap[b]? = some (.cells cs.toArray t (0, 0))) (ho : o < cs.length) (h1 : v.oneCell' = true) :
    (store ⟨b, o, none⟩ v).run P w = .ok () (w.setCell ⟨b, o, none⟩ v) := by
  rw [run_store P w _ v _ h1]
  have hc : w.cell? ⟨b, o, none⟩ = some (cs[o]'ho) := cell_of h (by simp [ho])
  have hf : w.frozen? ⟨b, o, none⟩ = false := by simp [World.frozen?, h]
  simp [hc, hf]
theorem setCell_at {w : World} {b o : Nat} {cs : List Value} {t : TypeId} {v : Value} (h : w.heap[b]? = some (.cells cs.toArray t (0, 0))) :
    (w.setCell ⟨b, o, none⟩ v).heap[b]? = some (.cells (cs.set o v).toArray t (0, 0)) := by
  simp only [World.setCell, Array.getElem?_modify, if_true, h, Option.map_some]
  simp
theorem setCell_off {w : World} {b o c : Nat} {v : Value} (h : c ≠ b) : (w.setCell ⟨b, o, none⟩ v).heap[c]? = w.heap[c]? := by
  simp only [World.setCell, Array.getElem?_modify]
  rw [if_neg (fun e => h e.symm)]
def oneAll : List Value → Bool
  | [] => true
  | v :: vs => v.oneCell' && oneAll vs
theorem store_all {b : Nat} {t : TypeId} : ∀ (vs : List Value) (o i : Nat) (cs : List Value) (w : World) (L : List HP) (n : Nat), L[n]? = some (ptc b t cs) → Sat w L →
    o + i + vs.length ≤ cs.length → oneAll vs = true → ∃ w', (storeCells ⟨b, o, none⟩ vs i).run P w = .ok () w' ∧ Sat w' (L.set n (ptc b t (ovr cs (o + i) vs)))
  | [], o, i, cs, w, L, n, hn, s, _, _ => ⟨w, by simp [storeCells], by
      rw [ovr_nil]
      obtain ⟨hlt, he⟩ := List.getElem?_eq_some_iff.1 hn
      rw [← he, List.set_getElem_self hlt]
      exact s⟩
  | v :: vs, o, i, cs, w, L, n, hn, s, hl, h1 => by
    simp only [List.length_cons] at hl
    simp only [oneAll, Bool.and_eq_true] at h1
    have hb := s.pto n hn
    have hs := store_one (P := P) (v := v) hb (o := o + i) (by omega) h1.1
    have s' : Sat (w.setCell ⟨b, o + i, none⟩ v) (L.set n (ptc b t (cs.set (o + i) v))) := s.turn n hn (setCell_at hb) (fun c hc => setCell_off hc) rfl
    have hn' : (L.set n (ptc b t (cs.set (o + i) v)))[n]? = some (ptc b t (cs.set (o + i) v)) := by
      obtain ⟨hlt, _⟩ := List.getElem?_eq_some_iff.1 hn
      simp [hlt]
    obtain ⟨w', hr, hs'⟩ := store_all vs o (i + 1) _ _ _ n hn' s' (by simp; omega) h1.2
    refine ⟨w', ?_, ?_⟩
    · simp only [storeCells, Sem.run_bind, add_of, hs, Result.andThen_ok, hr]
    · rw [List.set_set] at hs'
      rw [set_ovr _ _ _ _ (by omega)]
      exact hs'
/-- a part said anew, or taken out, reckoned strictly -/
def lsetK : List HP → Nat → HP → (List HP → Prop) → Prop
  | [], _, _, k => k []
  | _ :: L, 0, B, k => k (B :: L)
  | A :: L, n + 1, B, k => lsetK L n B fun M => k (A :: M)
theorem lsetK_eq : ∀ (L : List HP) (i : Nat) (B : HP) (k : List HP → Prop), lsetK L i B k = k (L.set i B)
  | [], _, _, _ => by simp [lsetK]
  | _ :: L, 0, B, k => by simp [lsetK]
  | A :: L, n + 1, B, k => by simp [lsetK, lsetK_eq L n B]
def ldelK : List HP → Nat → (List HP → Prop) → Prop
  | [], _, k => k []
  | _ :: L, 0, k => k L
  | A :: L, n + 1, k => ldelK L n fun M => k (A :: M)
theorem ldelK_eq : ∀ (L : List HP) (i : Nat) (k : List HP → Prop), ldelK L i k = k (L.eraseIdx i)
  | [], _, _ => by simp [ldelK]
  | _ :: L, 0, k => by simp [ldelK]
  | A :: L, n + 1, k => by simp [ldelK, ldelK_eq L n]
theorem St.at {L : List HP} {b o : Nat} {t : TypeId} {cs vs : List Value} {K : List HP → Prop} (i : Nat) (hi : L[i]? = some (ptc b t cs)) (hl : o + vs.length ≤ cs.length)
    (h1 : oneAll vs = true) (k : lsetK L i (ptc b t (ovr cs o vs)) K) : St P L ⟨b, o, none⟩ vs K :=
  ⟨_, fun w s => store_all vs o 0 cs w L i hi s (by omega) h1, by rwa [lsetK_eq] at k⟩
/-- some value, with some memory, of which something is known -/
structure Exs {β : Type} (V : β → Value) (H : β → List HP) (R : β → Prop) (v : Value) (L' : List HP) : Prop where
  go : ∃ x, R x ∧ v = V x ∧ Ent L' (H x)
theorem Exs.of {β : Type} {V : β → Value} {H : β → List HP} {R : β → Prop} {v : Value} {L' : List HP} (x : β) (h : Ent L' (H x)) (r : R x) (e : v = V x) : Exs V H R v L' := ⟨x, r, e, h⟩
theorem Cl.exs {f : FuncId} {args : List Value} {L : List HP} {K : Value → List HP → Prop} {X : List PanicEntry → List HP → Prop} {β : Type} {V : β → Value} {H : β → List HP} {R : β → Prop}
    (c : Con P f args L (Exs V H R)) (k : ∀ x, R x → K (V x) (H x)) : Cl P f args L K X :=
  ⟨⟨c.ent, fun w s => (c.run w s).mono fun e w' => by
    cases e with
    | returned v => rintro ⟨L', s', ⟨x, r, rfl, h⟩⟩; exact ⟨_, h _ s', k x r⟩
    | panicked ch => rintro ⟨L', s', r⟩; exact r.elim
    | outgrown => exact id⟩⟩
end Go.Eng
