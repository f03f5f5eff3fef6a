/- Each operation over assertions, and that it is right. -/
import Derived.Test.YtdjpcfaidgofoaaGreatEngCore
set_option linter.all false
namespace Go.Eng

/-- a run of the model's own, left to be shown by hand -/
structure Sm (P : Program) (s : Sem Value) (L : List HP) (K : Value → List HP → Prop) : Prop where
  go : ∀ w, Sat w L → ∃ v w' L', s.run P w = .ok v w' ∧ Sat w' L' ∧ K v L'

def cellsL : Value → List Value
  | .agg cs => cs.toList
  | v => [v]
theorem cellsL_eq (v : Value) : v.cells = (cellsL v).toArray := by cases v <;> simp [Value.cells, cellsL]
def forceL : List Value → (List Value → Prop) → Prop
  | [], k => k []
  | v :: vs, k => forceL vs fun us => k (v :: us)
theorem forceL_eq : ∀ (vs : List Value) (k : List Value → Prop), forceL vs k = k vs
  | [], _ => rfl
  | v :: vs, k => by simp [forceL, forceL_eq vs]
def cellsK (v : Value) (k : List Value → Prop) : Prop :=
  match v with
  | .agg (Array.mk cs) => k cs
  | v => k [v]
theorem cellsK_eq (v : Value) (k : List Value → Prop) : cellsK v k = k (cellsL v) := by cases v <;> rfl
def addK (a : Addr) (n : Nat) (k : Addr → Prop) : Prop :=
  match n, a with
  | 0, a => k a
  | n + 1, ⟨b, o, _⟩ => k ⟨b, o + (n + 1), none⟩
theorem addK_eq (a : Addr) (n : Nat) (k : Addr → Prop) : addK a n k = k (a.add n) := by
  obtain ⟨b, o, s⟩ := a
  cases n with
  | zero => simp [addK, Addr.add]
  | succ n => simp [addK, Addr.add]
def ovr : List Value → Nat → List Value → List Value
  | [], _, _ => []
  | cs, 0, [] => cs
  | _ :: cs, 0, v :: vs => v :: ovr cs 0 vs
  | c :: cs, n + 1, vs => c :: ovr cs n vs

/-- of a slice, or of a struct's pointer -/
structure Ix (base : Option Addr) (len : Nat) (n : Int) (sz : Nat) (K : Addr → Prop) : Prop where
  go : ∃ a, base = some a ∧ 0 ≤ n ∧ n < len ∧ K (a.add (n.toNat * sz))
structure SIx (s : ByteArray) (n : Int) (K : UInt8 → Prop) : Prop where
  go : ∃ b, 0 ≤ n ∧ s[n.toNat]? = some b ∧ K b

def fieldK : List (Nat × Nat) → Nat → (Nat × Nat → Prop) → Prop
  | [], _, _ => False
  | p :: _, 0, k => k p
  | _ :: ps, n + 1, k => fieldK ps n k
theorem fieldK_spec : ∀ {ps : List (Nat × Nat)} {i : Nat} {k : Nat × Nat → Prop}, fieldK ps i k → ∃ p, ps[i]? = some p ∧ k p
  | [], _, _, h => by simp [fieldK] at h
  | p :: _, 0, k, h => ⟨p, by simp, by simpa [fieldK] using h⟩
  | _ :: ps, n + 1, k, h => by
    obtain ⟨p, hp, hk⟩ := fieldK_spec (ps := ps) (i := n) (k := k) (by simpa [fieldK] using h)
    exact ⟨p, by simpa using hp, hk⟩
def aggD : TypeDesc → Bool
  | .struct _ | .array _ _ => true
  | _ => false
/-- a part of an aggregate -/
def partC (τ : Tys) (t : TypeId) (cs : List Value) (off : Nat) (K : Value → Prop) : Prop :=
  tyK τ t fun i => bif aggD i.d then forceL ((cs.drop off).take i.size) fun vs => K (.agg vs.toArray) else
    Nd (off < cs.length) (nthK cs off K)

/-- are two values of a type the same? -/
abbrev DecK := (p : Prop) → Decidable p → Prop
def eqFs (τ : Tys) (E : TypeId → Value → Value → DecK → Prop) (xs ys : List Value) : List (Nat × Nat) → DecK → Prop
  | [], k => k True inferInstance
  | [f], k => partC τ f.2 xs f.1 fun a => partC τ f.2 ys f.1 fun b => E f.2 a b k
  | f :: g :: fs, k => partC τ f.2 xs f.1 fun a => partC τ f.2 ys f.1 fun b => E f.2 a b fun p ip => eqFs τ E xs ys (g :: fs) fun q iq => k (p ∧ q) (@instDecidableAnd p q ip iq)
def eqAs (τ : Tys) (E : Value → Value → DecK → Prop) (e : TypeId) (xs ys : List Value) (s : Nat) : Nat → Nat → DecK → Prop
  | _, 0, k => k True inferInstance
  | at_, m + 1, k => partC τ e xs (at_ * s) fun a => partC τ e ys (at_ * s) fun b => E a b fun p ip => eqAs τ E e xs ys s (at_ + 1) m fun q iq => k (p ∧ q) (@instDecidableAnd p q ip iq)
def eqT (τ : Tys) : Nat → TypeId → Value → Value → DecK → Prop
  | 0, _, _, _, _ => False
  | n + 1, t, x, y, k => tyK τ t fun i => (match i.d, x, y with
    | .int _, .int j a, .int j' b => bif Nat.beq (kindN j) (kindN j') then k (a = b) inferInstance else False
    | .bool, .bool a, .bool b => k (a = b) inferInstance
    | .string, .string a, .string b => k (a = b) inferInstance
    | .struct _, .agg (Array.mk xs), .agg (Array.mk ys) => bif i.eq then eqFs τ (eqT τ n) xs ys i.fs k else False
    | .array len e, .agg (Array.mk xs), .agg (Array.mk ys) => tyK τ e fun j => eqAs τ (eqT τ n e) e xs ys j.size 0 len k
    | _, _, _ => False)

/-- are two great structs the same? left to be told -/
structure Eqs (τ : Tys) (t : TypeId) (a b : Array Value) (K : Bool → Prop) : Prop where
  go : eqT τ 9 t (.agg a) (.agg b) fun p ip => K (@decide p ip)
def eqS (τ : Tys) (t : TypeId) (big : Bool) (a b : Array Value) (K : Bool → Prop) : Prop :=
  bif big then Eqs τ t a b K else eqT τ 9 t (.agg a) (.agg b) fun p ip => K (@decide p ip)
theorem eqS_go {τ : Tys} {t : TypeId} {big : Bool} {a b : Array Value} {K : Bool → Prop} (h : eqS τ t big a b K) : eqT τ 9 t (.agg a) (.agg b) fun p ip => K (@decide p ip) := by
  cases big with
  | true => exact Eqs.go h
  | false => exact h

def binC (τ : Tys) (op : BinOp) (t : TypeId) (x y : Operand) (vx vy : Value) (K : Value → Prop) (F : Sem Value → Prop) : Prop :=
  match vx, vy with
  | .int j a, .int k b => bif Nat.beq (kindN j) (kindN k) then intC op j a b K else
    (match op with | .shl => intC .shl j a b K | .shr => intC .shr j a b K | _ => False)
  | .bool a, .bool b => tyK τ t fun i => (match i.d, op with
    | .bool, .eql => K (.bool (a == b))
    | .bool, .neq => K (.bool (!(a == b)))
    | _, _ => False)
  | .string a, .string b => strC op a b K
  | .agg a, .agg b => tyK τ t fun i => bif i.eq then (match op with
    | .eql => eqS τ t (Nat.ble 9 i.size) a b fun c => K (.bool c)
    | .neq => eqS τ t (Nat.ble 9 i.size) a b fun c => K (.bool (!c))
    | _ => False) else False
  | .pointer a, .pointer none => tyK τ t fun i => (match i.d, op with
    | .pointer _, .eql => K (.bool a.isNone)
    | .pointer _, .neq => K (.bool (!a.isNone))
    | _, _ => False)
  | .slice a _ _, .slice none _ _ => tyK τ t fun i => (match i.d, op with
    | .slice _, .eql => K (.bool a.isNone)
    | .slice _, .neq => K (.bool (!a.isNone))
    | _, _ => False)
  | vx, vy => F (do eqGuard op t x y vx vy; binOp op t vx vy)

def unC (op : UnOp) (v : Value) (K : Value → Prop) (F : Sem Value → Prop) : Prop :=
  match op, v with
  | .not, .bool b => K (.bool (!b))
  | .neg, .int k n => Ar k (0 - n) fun n => K (.int k n)
  | op, v => F (Op.unary op v)

def convC (τ : Tys) (src dst : TypeId) (v : Value) (K : Value → Prop) (F : Sem Value → Prop) : Prop :=
  tyK τ src fun _ => tyK τ dst fun j => match j.d, v with
    | .int k, .int _ n => Ar k n fun n => K (.int k n)
    | .string, .string s => K (.string s)
    | _, v => F (convert src dst v)

def lenC (τ : Tys) (ts : Array TypeId) (ty : TypeId) (vs : List Value) (K : Value → Prop) (F : Sem Value → Prop) : Prop :=
  match ts, vs with
  | ⟨t :: _⟩, [v] => tyK τ t fun i => (match i.d, v with
    | .string, .string s => K (.int .i64 s.size)
    | .slice _, .slice _ n _ => K (.int .i64 n)
    | .array n _, _ => K (.int .i64 n)
    | _, v => F (Builtin.len_ ts ty #[v]))
  | _, _ => False

def foldInt (f : Int → Int → Int) (k : IntKind) (a : Int) : List Value → (Value → Prop) → Prop
  | [], K => K (.int k a)
  | .int _ b :: vs, K => foldInt f k (f a b) vs K
  | _ :: _, _ => False

def builtinC (τ : Tys) (b : Builtin) (ts : Array TypeId) (ty : TypeId) (vs : List Value) (K : Value → Prop) (F : Sem Value → Prop) : Prop :=
  match b with
  | .len => lenC τ ts ty vs K F
  | .min => (match vs with | .int k a :: vs => foldInt min k a vs K | _ => False)
  | .max => (match vs with | .int k a :: vs => foldInt max k a vs K | _ => False)
  | .append => F (Builtin.append_ ts ty vs.toArray)
  | .copy => F (Builtin.copy_ ts ty vs.toArray)
  | .cap => F (Builtin.cap_ ts ty vs.toArray)
  | .clear => F (Builtin.clear_ ts ty vs.toArray)
  | .delete => F (Builtin.delete_ ts ty vs.toArray)
  | .complex => F (Builtin.complex_ ts ty vs.toArray)
  | .imag => F (Builtin.imag_ ts ty vs.toArray)
  | .real => F (Builtin.real_ ts ty vs.toArray)
  | .unsafeString => F (Builtin.unsafeString_ ts ty vs.toArray)
  | .unsafeStringData => F (Builtin.unsafeStringData_ ts ty vs.toArray)
  | .unsafeSlice => F (Builtin.unsafeSlice_ ts ty vs.toArray)
  | .unsafeSliceData => F (Builtin.unsafeSliceData_ ts ty vs.toArray)
  | _ => False

def partsK (l : Env) : List (Nat × Operand) → (List (Nat × Value) → Prop) → Prop
  | [], k => k []
  | (i, x) :: r, k => evK l x fun v => partsK l r fun vs => k ((i, v) :: vs)
theorem partsK_eq (l : Env) : ∀ (ps : List (Nat × Operand)) (k : List (Nat × Value) → Prop), partsK l ps k = k (ps.map fun p => (p.1, evl l p.2))
  | [], _ => rfl
  | (i, x) :: r, k => by simp [partsK, evK_eq, partsK_eq l r]
/-- parts laid into cells, each at its place -/
def layK (place : Nat → (Nat × Nat → Prop) → Prop) (cells : List Value) : List (Nat × Value) → (List Value → Prop) → Prop
  | [], k => k cells
  | (i, v) :: r, k => place i fun p => cellsK v fun cs => bif Nat.beq cs.length p.2 && Nat.ble (p.1 + cs.length) cells.length then
      forceL (ovr cells p.1 cs) (fun cells => layK place cells r k) else False
def placesK (τ : Tys) : List (Nat × Nat) → (List (Nat × Nat) → Prop) → Prop
  | [], k => k []
  | f :: fs, k => tyK τ f.2 fun j => placesK τ fs fun ps => k ((f.1, j.size) :: ps)

/-- what the opening of a slice of a slice gives -/
structure Sub (base : Option Addr) (len cap : Nat) (lo : Option Value) (hi : Option Value) (sz : Nat) (K : Value → Prop) : Prop where
  go : ∃ l h : Nat, (match lo with | some v => ∃ k, v = .int k l | none => l = 0) ∧ (match hi with | some v => ∃ k, v = .int k h | none => h = len) ∧ l ≤ h ∧ h ≤ cap ∧
    K (.slice (if cap = l then base else base.map (·.add (l * sz))) (h - l) (cap - l))
structure SubS (s : ByteArray) (lo : Option Value) (hi : Option Value) (K : Value → Prop) : Prop where
  go : ∃ l h : Nat, (match lo with | some v => ∃ k, v = .int k l | none => l = 0) ∧ (match hi with | some v => ∃ k, v = .int k h | none => h = s.size) ∧ l ≤ h ∧ h ≤ s.size ∧
    K (.string (s.extract l h))
def oevK (l : Env) (x : Option Operand) (k : Option Value → Prop) : Prop :=
  match x with
  | none => k none
  | some x => evK l x fun v => k (some v)
theorem oevK_eq (l : Env) (x : Option Operand) (k : Option Value → Prop) : oevK l x k = k (x.map (evl l)) := by
  cases x <;> simp [oevK, evK_eq]

/-- a new row of cells -/
structure Nc (t : TypeId) (cs : List Value) (L : List HP) (K : Nat → List HP → Prop) : Prop where
  go : ∀ b, K b (ptc b t cs :: L)
structure Mk (e : TypeId) (i : TyI) (len cap : Int) (L : List HP) (K : Value → List HP → Prop) : Prop where
  go : 0 ≤ len ∧ len ≤ cap ∧ cap ≤ 9223372036854775807 ∧ i.bytes * cap ≤ 281474976710656 ∧
    ∀ b, ∃ B : HP, (∀ w, Sat w (ptc b e ((List.replicate cap.toNat (cellsL i.zero)).flatten) :: L) → Sat w (B :: L)) ∧ K (.slice (some ⟨b, 0, none⟩) len.toNat cap.toNat) (B :: L)

/-- operations that look at no memory -/
def pureC (τ : Tys) (o : Oper) (l : Env) (K : Value → Prop) (F : Sem Value → Prop) : Prop :=
  match o.op with
  | .move x => evK l x K
  | .assign x => evK l x K
  | .pick c a b => evK l c fun vc => (match vc with
    | .bool t => Br t (evK l a K) (evK l b K)
    | _ => False)
  | .build t ps => tyK τ t fun i => cellsK i.zero fun zs => partsK l ps.toList fun vs => (match i.d with
    | .struct _ => placesK τ i.fs fun places => layK (fieldK places) zs vs fun cs => K (.agg cs.toArray)
    | .array _ e => tyK τ e fun j => layK (fun i k => k (i * j.size, j.size)) zs vs fun cs => K (.agg cs.toArray)
    | _ => False)
  | .nilCheck x => evK l x fun v => (match v with
    | .pointer (some a) => K (.pointer (some a))
    | .func (.func g) f c => K (.func (.func g) f c)
    | _ => False)
  | .binOp op t x y _ => evK l x fun vx => evK l y fun vy => binC τ op t x y vx vy K F
  | .unOp op _ x => evK l x fun v => unC op v K F
  | .convert s d x => evK l x fun v => convC τ s d v K F
  | .makeFunc fn first captured => evsK l first.toList fun fs => evsK l captured.toList fun cs => K (.func fn fs.toArray cs.toArray)
  | .makeInterface t x => tyK τ t fun i => evK l x fun v => (match i.d with
    | .interface _ => False
    | _ => K (.iface t v))
  | .slice t x lo hi mx => tyK τ t fun i => evK l x fun v => oevK l lo fun vl => oevK l hi fun vh => (match i.d, v, mx with
    | .string, .string s, none => SubS s vl vh K
    | .slice e, .slice base len cap, none => tyK τ e fun j => Sub base len cap vl vh j.size K
    | .array n e, .pointer (some a), none => tyK τ e fun j => Sub (some a) n n vl vh j.size K
    | _, _, _ => False)
  | .fieldAddr s x f => tyK τ s fun i => evK l x fun v => (match i.d, v with
    | .struct _, .pointer (some a) => fieldK i.fs f fun fd => tyK τ fd.2 fun j => (match j.size with
      | 0 => False
      | _ + 1 => addK a fd.1 fun a => K (.pointer (some a)))
    | _, _ => False)
  | .field t x f => tyK τ t fun i => evK l x fun v => (match i.d, v with
    | .struct _, .agg (Array.mk cs) => fieldK i.fs f fun fd => partC τ fd.2 cs fd.1 K
    | _, _ => False)
  | .indexAddr t x ix => tyK τ t fun i => evK l x fun v => evK l ix fun vi => (match i.d, v, vi with
    | .slice e, .slice base len _, .int _ n => tyK τ e fun j => Ix base len n j.size fun a => K (.pointer (some a))
    | .array len e, .pointer base, .int _ n => tyK τ e fun j => Ix base len n j.size fun a => K (.pointer (some a))
    | _, _, _ => False)
  | .index t x ix => tyK τ t fun i => evK l x fun v => evK l ix fun vi => (match i.d, v, vi with
    | .string, .string s, .int _ n => SIx s n fun b => K (.int .u8 b.toNat)
    | .array len e, .agg (Array.mk cs), .int _ n => Nd (0 ≤ n ∧ n < len) (tyK τ e fun j => partC τ e cs (n.toNat * j.size) K)
    | _, _, _ => False)
  | .extract t ix => evK l t fun v => (match v with
    | .tuple (Array.mk vs) => Nd (ix < vs.length) (nthK vs ix K)
    | _ => False)
  | .lookup t x ix ok => evK l x fun v => evK l ix fun vi => F (Instr.lookup t v vi ok)
  | .range t x => evK l x fun v => F (Instr.range t v)
  | .next it s => evK l it fun v => F (Instr.next v s o.type)
  | .typeAssert x t a ok => evK l x fun v => F (Instr.typeAssert v t a ok)
  | .call { callee := .builtin b, args := as, argTypes := ts } => evsK l as.toList fun vs => builtinC τ b ts o.type vs K F
  | _ => False

def callC (P : Program) (o : Oper) (c : Call) (l : Env) (L : List HP) (K : Value → List HP → Prop) (X : List PanicEntry → List HP → Prop) : Prop :=
  match c.callee with
  | .value f => evK l f fun vf => evsK l c.args.toList fun vs => (match vf with
    | .func (.func g) first captured => forceL (first.toList ++ vs ++ captured.toList) fun as => Cl P g as L K X
    | _ => Raw P o l L K X)
  | .builtin _ => False
  | .invoke _ _ => Raw P o l L K X

def opC (P : Program) (τ : Tys) (o : Oper) (l : Env) (L : List HP) (K : Value → List HP → Prop) (X : List PanicEntry → List HP → Prop) : Prop :=
  match o.op with
  | .alloc t => tyK τ t fun i => cellsK i.zero fun cs => Nc t cs L fun b L' => K (.pointer (some ⟨b, 0, none⟩)) L'
  | .box t x => evK l x fun v => cellsK v fun cs => Nc t cs L fun b L' => K (.pointer (some ⟨b, 0, none⟩)) L'
  | .buildSlice t n ps => tyK τ t fun i => partsK l ps.toList fun vs => (match i.d with
    | .slice e => tyK τ e fun j => bif Nat.ble (n * j.size) 1000000 && !Nat.beq j.size 0 && Nat.beq (cellsL j.zero).length j.size then
        forceL ((List.replicate n (cellsL j.zero)).flatten) (fun zs => layK (fun i k => k (i * j.size, j.size)) zs vs fun cs => Nc e cs L fun b L' => K (.slice (some ⟨b, 0, none⟩) n n) L') else False
    | _ => False)
  | .load t a => tyK τ t fun i => evK l a fun va => (match va with
    | .pointer (some a) => bif aggD i.d then LdN L a i.size (fun vs => forceL vs fun vs => K (.agg vs.toArray) L) else Ld L a (fun v => K v L)
    | _ => False)
  | .store t a x => tyK τ t fun i => evK l a fun va => evK l x fun vx => (match va with
    | .pointer (some a) => cellsK vx fun cs => Nd (cs.length = i.size) (St P L a cs fun L' => K undef L')
    | _ => False)
  | .makeMap t r => evK l (r.getD (.const (.int .i64 0))) fun v => (match v with
    | .int _ _ => tyK τ t fun i => (match i.d with | .map _ _ => Nw (.map #[] 0) L fun b L' => K (.map (some b)) L' | _ => False)
    | _ => False)
  | .makeSlice t len cap => tyK τ t fun i => evK l len fun vl => evK l cap fun vc => (match i.d, vl, vc with
    | .slice e, .int _ n, .int _ c => tyK τ e fun j => Mk e j n c L K
    | _, _, _ => False)
  | .mapUpdate t m k x => evK l m fun vm => evK l k fun vk => evK l x fun vx => Sm P (do Instr.mapUpdate t vm vk vx; pure undef) L K
  | .panic x => evK l x fun v => (match v with
    | .iface t v => X [{ v := .iface t v, recovered := false }] L
    | _ => False)
  | .call { callee := .builtin .panic, args := as, argTypes := _ } => evsK l as.toList fun vs => (match vs with
    | .iface t v :: _ => X [{ v := .iface t v, recovered := false }] L
    | _ => False)
  | .call { callee := .builtin b, args := as, argTypes := ts } => evsK l as.toList fun vs => builtinC τ b ts o.type vs (fun v => K v L) (fun s => Sm P s L K)
  | .call c => callC P o c l L K X
  | .go _ | .defer _ | .send _ _ | .recv _ _ _ | .select _ _ | .ready _ | .waits _ | .insert _ _ _ _ | .mapEntry _ _ _ | .entryStore _ _ _ _ | .entry _ | .makeChan _ _ | .sliceToArrayPointer _ _ => Raw P o l L K X
  | _ => pureC τ o l (fun v => K v L) (fun s => Sm P s L K)

end Go.Eng
