/- Running code over assertions: what each operation asks and leaves, as a function that Lean can reckon; and that it is right. -/
import Derived.Test.YtloaknocdnpedaaGreatDoorEngHeap
import Derived.Laws.Entries
import Derived.Laws.Small
import Derived.Scope
set_option linter.all false
namespace Go.Eng

abbrev Env := List Value

def nthK : Env → Nat → (Value → Prop) → Prop
  | [], _, k => k undef
  | v :: _, 0, k => k v
  | _ :: l, n + 1, k => nthK l n k
theorem nthK_eq (k : Value → Prop) : ∀ (l : Env) (t : Nat), nthK l t k = k (l.getD t undef)
  | [], t => by simp [nthK]
  | v :: _, 0 => by simp [nthK]
  | _ :: l, n + 1 => by simp [nthK, nthK_eq k l n]

def setK : Env → Nat → Value → (Env → Prop) → Prop
  | [], _, _, k => k []
  | _ :: l, 0, v, k => k (v :: l)
  | x :: l, n + 1, v, k => setK l n v (fun l' => k (x :: l'))
theorem setK_eq : ∀ (l : Env) (d : Nat) (v : Value) (k : Env → Prop), setK l d v k = k (l.set d v)
  | [], _, _, _ => by simp [setK]
  | _ :: l, 0, v, k => by simp [setK]
  | x :: l, n + 1, v, k => by simp [setK, setK_eq l n v]

def putK (l : Env) (d : Option Nat) (v : Value) (k : Env → Prop) : Prop :=
  match d with
  | some d => setK l d v k
  | none => k l
def put (l : Env) (d : Option Nat) (v : Value) : Env :=
  match d with
  | some d => l.set d v
  | none => l
theorem putK_eq (l : Env) (d : Option Nat) (v : Value) (k : Env → Prop) : putK l d v k = k (put l d v) := by
  cases d <;> simp [putK, put, setK_eq]

def evl (l : Env) : Operand → Value
  | .tmp t => l.getD t undef
  | .const v => v
  | .global g => .pointer (some ⟨g, 0, none⟩)
  | .func f => .func (.func f) #[] #[]
def evK (l : Env) (x : Operand) (k : Value → Prop) : Prop :=
  match x with
  | .tmp t => nthK l t k
  | .const v => k v
  | .global g => k (.pointer (some ⟨g, 0, none⟩))
  | .func f => k (.func (.func f) #[] #[])
theorem evK_eq (l : Env) (x : Operand) (k : Value → Prop) : evK l x k = k (evl l x) := by
  cases x <;> simp [evK, evl, nthK_eq]
def evsK (l : Env) : List Operand → (List Value → Prop) → Prop
  | [], k => k []
  | x :: xs, k => evK l x fun v => evsK l xs fun vs => k (v :: vs)
theorem evsK_eq (l : Env) : ∀ (xs : List Operand) (k : List Value → Prop), evsK l xs k = k (xs.map (evl l))
  | [], k => rfl
  | x :: xs, k => by simp [evsK, evK_eq, evsK_eq l xs]

theorem eval_evl (l : Env) (D : List Deferred) : (Act.mk l.toArray D).eval = evl l := by
  funext x; cases x <;> simp [Act.eval, evl]
theorem put_put (l : Env) (D : List Deferred) (d : Option Nat) (v : Value) : (Act.mk l.toArray D).put d v = Act.mk (put l d v).toArray D := by
  cases d <;> simp [Act.put, put]

/-! What stands still till it is told how to go on. -/
structure Br (b : Bool) (T F : Prop) : Prop where
  t : b = true → T
  f : b = false → F
/-- an integer that is wrapped -/
structure Ar (k : IntKind) (n : Int) (K : Int → Prop) : Prop where
  go : K (k.wrap n)
/-- bits, or a shift to the right -/
structure Bt (v : Int) (K : Int → Prop) : Prop where
  go : K v
/-- what must be so -/
structure Nd (p : Prop) (K : Prop) : Prop where
  is : p
  go : K
/-- a new block -/
structure Nw (o : Obj) (L : List HP) (K : Nat → List HP → Prop) : Prop where
  go : ∀ b, ∃ B : HP, (∀ w, Sat w (pto b o :: L) → Sat w (B :: L)) ∧ K b (B :: L)
/-- one cell is read -/
structure Ld (L : List HP) (a : Addr) (K : Value → Prop) : Prop where
  go : ∃ v, (∀ w, Sat w L → w.cell? a = some v) ∧ K v
/-- cells are read -/
structure LdN (L : List HP) (a : Addr) (n : Nat) (K : List Value → Prop) : Prop where
  go : ∃ vs : List Value, vs.length = n ∧ (∀ w, Sat w L → ∀ j u, vs[j]? = some u → w.cell? (a.add j) = some u) ∧ K vs
/-- cells are written -/
structure St (P : Program) (L : List HP) (a : Addr) (vs : List Value) (K : List HP → Prop) : Prop where
  go : ∃ L', (∀ w, Sat w L → ∃ w', (storeCells a vs).run P w = .ok () w' ∧ Sat w' L') ∧ K L'

/-- what a type is: its form (without its fields and methods), its fields' places and types, how many cells and bytes it has, its nought -/
structure TyI where
  d : TypeDesc
  fs : List (Nat × Nat)
  size : Nat
  bytes : Nat
  zero : Value
  eq : Bool
abbrev Tys := List (Option TyI)
def bare : TypeDesc → TypeDesc
  | .struct _ => .struct #[]
  | .interface _ => .interface #[]
  | .func _ _ _ => .func #[] #[] false
  | d => d
def fieldsOf : TypeDesc → List (Nat × Nat)
  | .struct fs => fs.toList.map fun f => (f.offset, f.type)
  | _ => []
def namesBad (P : Program) (t : TypeId) : Bool :=
  match P.underlying t with
  | some (.struct fs) => fs.toList.any fun f => f.name == "_"
  | _ => false
structure TyOk (P : Program) (t : TypeId) (i : TyI) : Prop where
  und0 : (P.underlying t).map (fun D => (bare D, fieldsOf D)) = some (i.d, i.fs)
  info0 : (P.info? t).map (fun f => (f.size, f.bytes, f.zero)) = some (i.size, i.bytes, some i.zero)
  zl : i.zero.cells.size = i.size
  eq0 : (!i.eq || !(P.stoodInHeld t || P.eqGuardType P.depth t || namesBad P t)) = true
theorem TyOk.und {P : Program} {t : TypeId} {i : TyI} (h : TyOk P t i) : ∃ D, P.underlying t = some D ∧ bare D = i.d ∧ fieldsOf D = i.fs := by
  obtain ⟨D, hD, he⟩ := Option.map_eq_some_iff.1 h.und0
  simp only [Prod.mk.injEq] at he
  exact ⟨D, hD, he.1, he.2⟩
theorem TyOk.info {P : Program} {t : TypeId} {i : TyI} (h : TyOk P t i) : ∃ f, P.info? t = some f ∧ f.size = i.size ∧ f.bytes = i.bytes ∧ f.zero = some i.zero := by
  obtain ⟨D, hD, he⟩ := Option.map_eq_some_iff.1 h.info0
  simp only [Prod.mk.injEq] at he
  exact ⟨D, hD, he.1, he.2.1, he.2.2⟩
def TysOk (P : Program) (τ : Tys) : Prop := ∀ t i, τ[t]? = some (some i) → TyOk P t i
def TysFrom (P : Program) : Nat → Tys → Prop
  | _, [] => True
  | n, none :: r => TysFrom P (n + 1) r
  | n, some i :: r => TyOk P n i ∧ TysFrom P (n + 1) r
theorem tys_from {P : Program} : ∀ {τ : Tys} {n : Nat}, TysFrom P n τ → ∀ t i, τ[t]? = some (some i) → TyOk P (n + t) i
  | [], _, _, t, i, h => by simp at h
  | none :: r, n, hf, t, i, h => by
    cases t with
    | zero => simp at h
    | succ t => have := tys_from (τ := r) hf t i (by simpa using h); rw [show n + (t + 1) = n + 1 + t from by omega]; exact this
  | some j :: r, n, hf, t, i, h => by
    cases t with
    | zero => simp at h; subst h; exact hf.1
    | succ t => have := tys_from (τ := r) hf.2 t i (by simpa using h); rw [show n + (t + 1) = n + 1 + t from by omega]; exact this
theorem tys_of {P : Program} {τ : Tys} (h : TysFrom P 0 τ) : TysOk P τ := fun t i hi => by have := tys_from h t i hi; rwa [Nat.zero_add] at this
def tyK (τ : Tys) (t : TypeId) (k : TyI → Prop) : Prop :=
  match τ, t with
  | [], _ => False
  | some i :: _, 0 => k i
  | none :: _, 0 => False
  | _ :: τ, n + 1 => tyK τ n k
theorem tyK_spec {k : TyI → Prop} : ∀ {τ : Tys} {t : TypeId}, tyK τ t k → ∃ i, τ[t]? = some (some i) ∧ k i
  | [], _, h => by simp [tyK] at h
  | some i :: _, 0, h => ⟨i, by simp, by simpa [tyK] using h⟩
  | none :: _, 0, h => by simp [tyK] at h
  | _ :: τ, n + 1, h => by
    obtain ⟨i, hi, hk⟩ := tyK_spec (τ := τ) (t := n) (by simpa [tyK] using h)
    exact ⟨i, by simpa using hi, hk⟩

/-- what an operation must lead to -/
def stepPost (P : Program) (K : Value → List HP → Prop) (X : List PanicEntry → List HP → Prop) : Result Next → Prop
  | .ok (.value v) w => ∃ L, Sat w L ∧ K v L
  | .ok .skip w => ∃ L, Sat w L ∧ K undef L
  | .ok (.enter f args) w => Calls P f args w fun
      | .returned v, w' => ∃ L, Sat w' L ∧ K v L
      | .panicked ch, w' => ∃ L, Sat w' L ∧ X ch L
      | .outgrown, _ => False
  | .halt (.panic v) w => ∃ L, Sat w L ∧ X [{ v, recovered := false }] L
  | _ => False
def Step (P : Program) (o : Oper) (l : Env) (L : List HP) (K : Value → List HP → Prop) (X : List PanicEntry → List HP → Prop) : Prop :=
  ∀ w, Sat w L → stepPost P K X ((execOp (evl l) o).run P w)
/-- an operation that is left to be run by hand -/
structure Raw (P : Program) (o : Oper) (l : Env) (L : List HP) (K : Value → List HP → Prop) (X : List PanicEntry → List HP → Prop) : Prop where
  go : Step P o l L K X

/-- a function's contract -/
structure Con (P : Program) (f : FuncId) (args : List Value) (L : List HP) (R : Value → List HP → Prop) (X : List PanicEntry → List HP → Prop := fun _ _ => False) : Prop where
  ent : ∃ fn, P.funcs[f]? = some fn ∧ (fn.name == "runtime.NumGoroutine") = false ∧ fn.body.isNone = false
  run : ∀ w, Sat w L → Calls P f args.toArray w fun
      | .returned v, w' => ∃ L', Sat w' L' ∧ R v L'
      | .panicked ch, w' => ∃ L', Sat w' L' ∧ X ch L'
      | .outgrown, _ => False
theorem Con.mono {P : Program} {f : FuncId} {args : List Value} {L : List HP} {R R' : Value → List HP → Prop} {X X' : List PanicEntry → List HP → Prop}
    (c : Con P f args L R X) (h : ∀ v L', R v L' → R' v L') (hx : ∀ v L', X v L' → X' v L') : Con P f args L R' X' :=
  ⟨c.ent, fun w s => (c.run w s).mono fun e w' => by
    cases e with
    | returned v => rintro ⟨L', s', r⟩; exact ⟨L', s', h _ _ r⟩
    | panicked ch => rintro ⟨L', s', r⟩; exact ⟨L', s', hx _ _ r⟩
    | outgrown => exact id⟩
/-- a call -/
structure Cl (P : Program) (f : FuncId) (args : List Value) (L : List HP) (K : Value → List HP → Prop) (X : List PanicEntry → List HP → Prop) : Prop where
  go : Con P f args L K X

def kindN : IntKind → Nat
  | .i8 => 0 | .i16 => 1 | .i32 => 2 | .i64 => 3 | .u8 => 4 | .u16 => 5 | .u32 => 6 | .u64 => 7
theorem kindN_inj {j k : IntKind} (h : Nat.beq (kindN j) (kindN k) = true) : j = k := by
  have h' := Nat.eq_of_beq_eq_true h
  cases j <;> cases k <;> first | rfl | (simp [kindN] at h')

/-- two integers -/
def intC (op : BinOp) (k : IntKind) (x y : Int) (K : Value → Prop) : Prop :=
  match op with
  | .add => Ar k (x + y) fun n => K (.int k n)
  | .sub => Ar k (x - y) fun n => K (.int k n)
  | .mul => Ar k (x * y) fun n => K (.int k n)
  | .quo => Nd (y ≠ 0) (Ar k (x.tdiv y) fun n => K (.int k n))
  | .rem => Nd (y ≠ 0) (K (.int k (x.tmod y)))
  | .and => Bt (bits .and k x y) fun n => K (.int k n)
  | .or => Bt (bits .or k x y) fun n => K (.int k n)
  | .xor => Bt (bits .xor k x y) fun n => K (.int k n)
  | .andNot => Bt (bits .andNot k x y) fun n => K (.int k n)
  | .eql => K (.bool (decide (x = y)))
  | .neq => K (.bool (!decide (x = y)))
  | .lss => K (.bool (decide (x < y)))
  | .leq => K (.bool (decide (x ≤ y)))
  | .gtr => K (.bool (decide (y < x)))
  | .geq => K (.bool (decide (y ≤ x)))
  | .shl => Nd (0 ≤ y) (Ar k (x * 2 ^ (min y.toNat k.bits)) fun n => K (.int k n))
  | .shr => Nd (0 ≤ y) (Bt (x.fdiv (2 ^ (min y.toNat k.bits))) fun n => K (.int k n))

def strC (op : BinOp) (x y : ByteArray) (K : Value → Prop) : Prop :=
  match op with
  | .add => Nd (x.size + y.size ≤ 9223372036854775807) (K (.string (x ++ y)))
  | .eql => K (.bool (decide (x = y)))
  | .neq => K (.bool (!decide (x = y)))
  | _ => False

end Go.Eng
