/- Running code over assertions: what each operation asks and leaves, as a function that Lean can reckon; and that it is right. -/
import Derived.Calls
import Derived.Laws.World
import Derived.Laws.Entries
import Derived.Laws.Small
import Derived.Scope
set_option linter.all false
namespace Go.Eng

abbrev Chunk := List (Nat × Obj)
/-- what is beside the memory -/
abbrev Out := Os × Array (Nat × ByteArray)
def HP := Out → Chunk → Prop
def World.out (w : World) : Out := (w.os, w.output)

/-- the chunks of parts -/
def Parts (e : Out) : List HP → Chunk → Prop
  | [], h => h = []
  | A :: L, h => ∃ h1 h2, h = h1 ++ h2 ∧ A e h1 ∧ Parts e L h2

structure OkH (w : World) (h : Chunk) : Prop where
  nd : (h.map (·.1)).Nodup
  on : ∀ p ∈ h, w.heap[p.1]? = some p.2

def Sat (w : World) (L : List HP) : Prop := ∃ h, Parts (World.out w) L h ∧ OkH w h

/-- one whole block -/
def pto (b : Nat) (o : Obj) : HP := fun _ h => h = [(b, o)]
/-- one block of cells that may be written -/
def ptc (b : Nat) (t : TypeId) (cs : List Value) : HP := pto b (.cells cs.toArray t (0, 0))
/-- all blocks of a world, as they were -/
def oldChunk (W : World) : Chunk := (List.range W.heap.size).map fun i => (i, W.heap.getD i (.deferred none))
def old (W : World) : HP := fun e h => e = World.out W ∧ h = oldChunk W

theorem parts_append {e : Out} {L M : List HP} : ∀ {h : Chunk}, Parts e (L ++ M) h ↔ ∃ h1 h2, h = h1 ++ h2 ∧ Parts e L h1 ∧ Parts e M h2 := by
  induction L with
  | nil =>
    intro h
    constructor
    · intro hp; exact ⟨[], h, rfl, rfl, hp⟩
    · rintro ⟨h1, h2, rfl, hz, hm⟩
      have hz' : h1 = [] := hz
      subst hz'
      exact hm
  | cons A L ih =>
    intro h
    constructor
    · rintro ⟨h1, h2, rfl, ha, hp⟩
      obtain ⟨h3, h4, rfl, hl, hm⟩ := ih.1 hp
      exact ⟨h1 ++ h3, h4, by simp, ⟨h1, h3, rfl, ha, hl⟩, hm⟩
    · rintro ⟨h1, h2, rfl, ⟨h3, h4, rfl, ha, hl⟩, hm⟩
      exact ⟨h3, h4 ++ h2, by simp, ha, ih.2 ⟨h4, h2, rfl, hl, hm⟩⟩

theorem OkH.perm {w : World} {h k : Chunk} (hp : h.Perm k) (o : OkH w h) : OkH w k :=
  ⟨(hp.map (·.1)).nodup_iff.1 o.nd, fun p hm => o.on p (hp.mem_iff.2 hm)⟩

theorem OkH.right {w : World} {h k : Chunk} (o : OkH w (h ++ k)) : OkH w k :=
  ⟨by have := o.nd; rw [List.map_append] at this; exact (List.nodup_append.1 this).2.1, fun p hm => o.on p (List.mem_append_right _ hm)⟩
theorem OkH.left {w : World} {h k : Chunk} (o : OkH w (h ++ k)) : OkH w h :=
  ⟨by have := o.nd; rw [List.map_append] at this; exact (List.nodup_append.1 this).1, fun p hm => o.on p (List.mem_append_left _ hm)⟩

theorem Parts.perm {e : Out} {L M : List HP} (hp : L.Perm M) : ∀ {h}, Parts e L h → ∃ k, Parts e M k ∧ h.Perm k := by
  induction hp with
  | nil => intro h hh; exact ⟨h, hh, .refl _⟩
  | cons A _ ih =>
    rintro h ⟨h1, h2, rfl, ha, hl⟩
    obtain ⟨k, hk, hkp⟩ := ih hl
    exact ⟨h1 ++ k, ⟨h1, k, rfl, ha, hk⟩, List.Perm.append_left _ hkp⟩
  | swap A B L =>
    rintro h ⟨h1, h2, rfl, hb, h3, h4, rfl, ha, hl⟩
    refine ⟨h3 ++ (h1 ++ h4), ⟨h3, _, rfl, ha, h1, h4, rfl, hb, hl⟩, ?_⟩
    rw [← List.append_assoc, ← List.append_assoc]
    exact List.Perm.append_right _ List.perm_append_comm
  | trans _ _ ih1 ih2 =>
    intro h hh
    obtain ⟨k, hk, p1⟩ := ih1 hh
    obtain ⟨m, hm, p2⟩ := ih2 hk
    exact ⟨m, hm, p1.trans p2⟩

theorem Sat.perm {w : World} {L M : List HP} (hp : L.Perm M) (s : Sat w L) : Sat w M := by
  obtain ⟨h, hh, o⟩ := s
  obtain ⟨k, hk, p⟩ := hh.perm hp
  exact ⟨k, hk, o.perm p⟩

theorem Sat.tail {w : World} {A : HP} {L : List HP} (s : Sat w (A :: L)) : Sat w L := by
  obtain ⟨h, ⟨h1, h2, rfl, _, hl⟩, o⟩ := s
  exact ⟨h2, hl, o.right⟩

theorem Sat.right {w : World} {L M : List HP} (s : Sat w (L ++ M)) : Sat w M := by
  obtain ⟨h, hp, o⟩ := s
  obtain ⟨h1, h2, rfl, _, hm⟩ := parts_append.1 hp
  exact ⟨h2, hm, o.right⟩

theorem Sat.sub {w : World} {L M : List HP} (hs : M.Sublist L) : Sat w L → Sat w M := by
  have key : ∀ {h}, Parts (World.out w) L h → ∃ k, Parts (World.out w) M k ∧ k.Sublist h := by
    induction hs with
    | slnil => intro h hh; exact ⟨h, hh, List.Sublist.refl _⟩
    | cons A _ ih =>
      rintro h ⟨h1, h2, rfl, _, hl⟩
      obtain ⟨k, hk, hks⟩ := ih hl
      exact ⟨k, hk, hks.trans (List.sublist_append_right _ _)⟩
    | cons_cons A _ ih =>
      rintro h ⟨h1, h2, rfl, ha, hl⟩
      obtain ⟨k, hk, hks⟩ := ih hl
      exact ⟨h1 ++ k, ⟨h1, k, rfl, ha, hk⟩, List.Sublist.append (List.Sublist.refl _) hks⟩
  rintro ⟨h, hh, o⟩
  obtain ⟨k, hk, hks⟩ := key hh
  exact ⟨k, hk, ⟨(hks.map _).nodup o.nd, fun p hm => o.on p (hks.subset hm)⟩⟩

/-- what a part says of the memory -/
theorem Sat.at {w : World} {L : List HP} {A : HP} (s : Sat w L) (i : Nat) (hi : L[i]? = some A) : ∃ h, A (World.out w) h ∧ OkH w h := by
  obtain ⟨h, hp, o⟩ := s
  induction L generalizing h i with
  | nil => simp at hi
  | cons B L ih =>
    obtain ⟨h1, h2, rfl, hb, hl⟩ := hp
    cases i with
    | zero => simp at hi; subst hi; exact ⟨h1, hb, o.left⟩
    | succ i => exact ih i (by simpa using hi) h2 hl o.right

theorem Sat.mem {w : World} {L : List HP} {A : HP} (s : Sat w L) (hi : A ∈ L) : ∃ h, A (World.out w) h ∧ OkH w h := by
  obtain ⟨i, hi⟩ := List.getElem?_of_mem hi
  exact s.at i hi

theorem Sat.pto {w : World} {L : List HP} {b : Nat} {o : Obj} (s : Sat w L) (i : Nat) (hi : L[i]? = some (pto b o)) : w.heap[b]? = some o := by
  obtain ⟨h, rfl, ok⟩ := s.at i hi
  exact ok.on (b, o) (by simp)

theorem mem_oldChunk {W : World} {b : Nat} {o : Obj} : (b, o) ∈ oldChunk W ↔ W.heap[b]? = some o := by
  unfold oldChunk
  rw [List.mem_map]
  constructor
  · rintro ⟨i, hi, he⟩
    rw [List.mem_range] at hi
    cases he
    rw [Array.getElem?_eq_getElem hi]
    simp [Array.getD, hi]
  · intro h
    have hb : b < W.heap.size := by
      rcases Nat.lt_or_ge b W.heap.size with h' | h'
      · exact h'
      · rw [Array.getElem?_eq_none h'] at h; simp at h
    refine ⟨b, List.mem_range.2 hb, ?_⟩
    rw [Array.getElem?_eq_getElem hb] at h
    simp only [Option.some.injEq] at h
    simp [Array.getD, hb, h]

theorem Sat.old {w W : World} {L : List HP} (s : Sat w L) (i : Nat) (hi : L[i]? = some (Eng.old W)) {b : Nat} {o : Obj} (hb : W.heap[b]? = some o) : w.heap[b]? = some o := by
  obtain ⟨h, ⟨_, rfl⟩, ok⟩ := s.at i hi
  exact ok.on (b, o) (mem_oldChunk.2 hb)

theorem OkH.lt {w : World} {h : Chunk} (o : OkH w h) {p : Nat × Obj} (hm : p ∈ h) : p.1 < w.heap.size := by
  have := o.on p hm
  rcases Nat.lt_or_ge p.1 w.heap.size with h' | h'
  · exact h'
  · rw [Array.getElem?_eq_none h'] at this; simp at this

theorem sat_start (W : World) : Sat W [old W] := by
  refine ⟨oldChunk W, ⟨oldChunk W, [], by simp, ⟨rfl, rfl⟩, rfl⟩, ?_, fun p hm => ?_⟩
  · unfold oldChunk
    rw [List.map_map]
    have : ((fun x : Nat × Obj => x.1) ∘ fun i => (i, W.heap.getD i (Obj.deferred none))) = id := by funext i; rfl
    rw [this, List.map_id]
    exact List.nodup_range
  · exact mem_oldChunk.1 hm

theorem OkH.congr {w w' : World} {h : Chunk} (o : OkH w h) (he : ∀ p ∈ h, w'.heap[p.1]? = w.heap[p.1]?) : OkH w' h :=
  ⟨o.nd, fun p hm => (he p hm).trans (o.on p hm)⟩

theorem Sat.heap {w w' : World} {L : List HP} (s : Sat w L) (he : w'.heap = w.heap) (ho : World.out w' = World.out w) : Sat w' L := by
  obtain ⟨h, hp, o⟩ := s
  exact ⟨h, by rw [ho]; exact hp, o.congr fun p _ => by rw [he]⟩

/-- a new block -/
theorem Sat.alloc {w : World} {L : List HP} (s : Sat w L) (o : Obj) : Sat (w.alloc o) (Eng.pto w.heap.size o :: L) := by
  obtain ⟨h, hp, ok⟩ := s
  have hlt : ∀ p ∈ h, p.1 < w.heap.size := fun p hm => ok.lt hm
  refine ⟨(w.heap.size, o) :: h, ⟨[(w.heap.size, o)], h, rfl, rfl, hp⟩, ?_, ?_⟩
  · rw [List.map_cons, List.nodup_cons]
    refine ⟨fun hm => ?_, ok.nd⟩
    obtain ⟨p, hm, he⟩ := List.mem_map.1 hm
    have := hlt p hm
    simp at he
    omega
  · intro p hm
    rw [List.mem_cons] at hm
    rcases hm with rfl | hm
    · show (w.heap.push o)[w.heap.size]? = some o
      simp
    · have := hlt p hm
      show (w.heap.push o)[p.1]? = _
      rw [Array.getElem?_push, if_neg (by omega)]
      exact ok.on p hm

/-- a block is turned: all other parts stay -/
theorem Sat.turn {w w' : World} {L : List HP} (s : Sat w L) (i : Nat) {b : Nat} {o o' : Obj} (hi : L[i]? = some (Eng.pto b o))
    (hb : w'.heap[b]? = some o') (hr : ∀ c, c ≠ b → w'.heap[c]? = w.heap[c]?) (ho : World.out w' = World.out w) : Sat w' (L.set i (Eng.pto b o')) := by
  obtain ⟨h, hp, ok⟩ := s
  have key : ∀ (L : List HP) (i : Nat) (h : Chunk), L[i]? = some (Eng.pto b o) → Parts (World.out w) L h → OkH w h → ∃ h1 h2, h = h1 ++ (b, o) :: h2 ∧ Parts (World.out w) (L.set i (Eng.pto b o')) (h1 ++ (b, o') :: h2) := by
    intro L
    induction L with
    | nil => intro i h hi; simp at hi
    | cons A L ih =>
      rintro i h hi ⟨h1, h2, rfl, ha, hl⟩ ok
      cases i with
      | zero =>
        simp at hi
        subst hi
        cases ha
        exact ⟨[], h2, rfl, [(b, o')], h2, rfl, rfl, hl⟩
      | succ i =>
        obtain ⟨k1, k2, rfl, hp⟩ := ih i h2 (by simpa using hi) hl ok.right
        exact ⟨h1 ++ k1, k2, by simp, h1, _, by simp, ha, hp⟩
  obtain ⟨h1, h2, rfl, hp'⟩ := key L i h hi hp ok
  refine ⟨_, by rw [ho]; exact hp', ?_, ?_⟩
  · have := ok.nd
    simpa using this
  · intro p hm
    have hnd := ok.nd
    rw [List.map_append, List.map_cons, List.nodup_append] at hnd
    obtain ⟨_, hn2, hdis⟩ := hnd
    rw [List.nodup_cons] at hn2
    rcases List.mem_append.1 hm with hm | hm
    · have hne : p.1 ≠ b := hdis p.1 (List.mem_map_of_mem (f := (·.1)) hm) b (by simp)
      rw [hr _ hne]
      exact ok.on p (List.mem_append_left _ hm)
    · rcases List.mem_cons.1 hm with rfl | hm
      · exact hb
      · have hne : p.1 ≠ b := fun he => hn2.1 (by rw [← he]; exact List.mem_map_of_mem (f := (·.1)) hm)
        rw [hr _ hne]
        exact ok.on p (List.mem_append_right _ (List.mem_cons_of_mem _ hm))

/-- a part is said otherwise -/
theorem Sat.weak {w : World} {L : List HP} (s : Sat w L) (i : Nat) {A B : HP} (hi : L[i]? = some A) (h : ∀ c, A (World.out w) c → B (World.out w) c) : Sat w (L.set i B) := by
  obtain ⟨c, hp, ok⟩ := s
  refine ⟨c, ?_, ok⟩
  clear ok
  induction L generalizing i c with
  | nil => simp at hi
  | cons C L ih =>
    obtain ⟨h1, h2, rfl, ha, hl⟩ := hp
    cases i with
    | zero => simp at hi; subst hi; exact ⟨h1, h2, rfl, h _ ha, hl⟩
    | succ i => exact ⟨h1, h2, rfl, ha, ih i (by simpa using hi) h2 hl⟩

/-- the first part is opened into some -/
theorem Sat.opened {w : World} {L M : List HP} {A : HP} (s : Sat w (A :: L)) (h : ∀ e c, A e c → Parts e M c) : Sat w (M ++ L) := by
  obtain ⟨c, ⟨h1, h2, rfl, ha, hl⟩, ok⟩ := s
  exact ⟨h1 ++ h2, parts_append.2 ⟨h1, h2, rfl, h _ _ ha, hl⟩, ok⟩
/-- some first parts are shut into one -/
theorem Sat.shut {w : World} {L M : List HP} {A : HP} (s : Sat w (M ++ L)) (h : ∀ e c, Parts e M c → A e c) : Sat w (A :: L) := by
  obtain ⟨c, hp, ok⟩ := s
  obtain ⟨h1, h2, rfl, hm, hl⟩ := parts_append.1 hp
  exact ⟨h1 ++ h2, ⟨h1, h2, rfl, h _ _ hm, hl⟩, ok⟩

theorem Sat.ne {w : World} {L : List HP} {b c : Nat} {o p : Obj} (s : Sat w (Eng.pto b o :: Eng.pto c p :: L)) : b ≠ c := by
  obtain ⟨h, ⟨h1, h2, rfl, rfl, h3, h4, rfl, rfl, _⟩, ok⟩ := s
  have := ok.nd
  simp at this
  exact this.1.1

/-- the old world as it was -/
theorem Sat.out {w W : World} {L : List HP} (s : Sat w L) (i : Nat) (hi : L[i]? = some (Eng.old W)) : w.os = W.os ∧ w.output = W.output := by
  obtain ⟨h, ⟨he, _⟩, _⟩ := s.at i hi
  simp only [World.out, Prod.mk.injEq] at he
  exact he

/-- one list of parts gives another one -/
def Ent (L M : List HP) : Prop := ∀ w, Sat w L → Sat w M
protected theorem Ent.rfl {L : List HP} : Ent L L := fun _ s => s
theorem Ent.trans {L M N : List HP} (h : Ent L M) (k : Ent M N) : Ent L N := fun w s => k w (h w s)
theorem Ent.perm {L M : List HP} (h : L.Perm M) : Ent L M := fun _ s => s.perm h
theorem Ent.sub {L M : List HP} (h : M.Sublist L) : Ent L M := fun _ s => s.sub h
theorem Ent.drop {A : HP} {L M : List HP} (h : Ent L M) : Ent (A :: L) M := fun w s => h w s.tail
theorem Ent.drops {K L M : List HP} (h : Ent L M) : Ent (K ++ L) M := fun w s => h w s.right
end Go.Eng
set_option linter.all false
namespace Go.Eng

abbrev Env := List Value

def nthK : Env → Nat → (Value → Prop) → Prop
  | [], _, k => k undef
  | v :: _, 0, k => k v
  | _ :: l, n + 1, k => nthK l n k
theorem nthK_eq (k : Value → Prop) : ∀ (l : Env) (t : Nat), nthK l t k = k (l.getD t undef)
  | [], t => by simp [nthK]
  | v :: _, 0 => by simp [nthK]
  | _ :: l, n + 1 => by simp [nthK, nthK_eq k l n]

def setK : Env → Nat → Value → (Env → Prop) → Prop
  | [], _, _, k => k []
  | _ :: l, 0, v, k => k (v :: l)
  | x :: l, n + 1, v, k => setK l n v (fun l' => k (x :: l'))
theorem setK_eq : ∀ (l : Env) (d : Nat) (v : Value) (k : Env → Prop), setK l d v k = k (l.set d v)
  | [], _, _, _ => by simp [setK]
  | _ :: l, 0, v, k => by simp [setK]
  | x :: l, n + 1, v, k => by simp [setK, setK_eq l n v]

def putK (l : Env) (d : Option Nat) (v : Value) (k : Env → Prop) : Prop :=
  match d with
  | some d => setK l d v k
  | none => k l
def put (l : Env) (d : Option Nat) (v : Value) : Env :=
  match d with
  | some d => l.set d v
  | none => l
theorem putK_eq (l : Env) (d : Option Nat) (v : Value) (k : Env → Prop) : putK l d v k = k (put l d v) := by
  cases d <;> simp [putK, put, setK_eq]

def evl (l : Env) : Operand → Value
  | .tmp t => l.getD t undef
  | .const v => v
  | .global g => .pointer (some ⟨g, 0, none⟩)
  | .func f => .func (.func f) #[] #[]
def evK (l : Env) (x : Operand) (k : Value → Prop) : Prop :=
  match x with
  | .tmp t => nthK l t k
  | .const v => k v
  | .global g => k (.pointer (some ⟨g, 0, none⟩))
  | .func f => k (.func (.func f) #[] #[])
theorem evK_eq (l : Env) (x : Operand) (k : Value → Prop) : evK l x k = k (evl l x) := by
  cases x <;> simp [evK, evl, nthK_eq]
def evsK (l : Env) : List Operand → (List Value → Prop) → Prop
  | [], k => k []
  | x :: xs, k => evK l x fun v => evsK l xs fun vs => k (v :: vs)
theorem evsK_eq (l : Env) : ∀ (xs : List Operand) (k : List Value → Prop), evsK l xs k = k (xs.map (evl l))
  | [], k => rfl
  | x :: xs, k => by simp [evsK, evK_eq, evsK_eq l xs]

theorem eval_evl (l : Env) (D : List Deferred) : (Act.mk l.toArray D).eval = evl l := by
  funext x; cases x <;> simp [Act.eval, evl]
theorem put_put (l : Env) (D : List Deferred) (d : Option Nat) (v : Value) : (Act.mk l.toArray D).put d v = Act.mk (put l d v).toArray D := by
  cases d <;> simp [Act.put, put]

/-! What stands still till it is told how to go on. -/
structure Br (b : Bool) (T F : Prop) : Prop where
  t : b = true → T
  f : b = false → F
/-- an integer that is wrapped -/
structure Ar (k : IntKind) (n : Int) (K : Int → Prop) : Prop where
  go : K (k.wrap n)
/-- bits, or a shift to the right -/
structure Bt (v : Int) (K : Int → Prop) : Prop where
  go : K v
/-- what must be so -/
structure Nd (p : Prop) (K : Prop) : Prop where
  is : p
  go : K
/-- a new block -/
structure Nw (o : Obj) (L : List HP) (K : Nat → List HP → Prop) : Prop where
  go : ∀ b, ∃ B : HP, (∀ w, Sat w (pto b o :: L) → Sat w (B :: L)) ∧ K b (B :: L)
/-- one cell is read -/
structure Ld (L : List HP) (a : Addr) (K : Value → Prop) : Prop where
  go : ∃ v, (∀ w, Sat w L → w.cell? a = some v) ∧ K v
/-- cells are read -/
structure LdN (L : List HP) (a : Addr) (n : Nat) (K : List Value → Prop) : Prop where
  go : ∃ vs : List Value, vs.length = n ∧ (∀ w, Sat w L → ∀ j u, vs[j]? = some u → w.cell? (a.add j) = some u) ∧ K vs
/-- cells are written -/
structure St (P : Program) (L : List HP) (a : Addr) (vs : List Value) (K : List HP → Prop) : Prop where
  go : ∃ L', (∀ w, Sat w L → ∃ w', (storeCells a vs).run P w = .ok () w' ∧ Sat w' L') ∧ K L'

/-- what a type is: its form (without its fields and methods), its fields' places and types, how many cells and bytes it has, its nought -/
structure TyI where
  d : TypeDesc
  fs : List (Nat × Nat)
  size : Nat
  bytes : Nat
  zero : Value
  eq : Bool
abbrev Tys := List (Option TyI)
def bare : TypeDesc → TypeDesc
  | .struct _ => .struct #[]
  | .interface _ => .interface #[]
  | .func _ _ _ => .func #[] #[] false
  | d => d
def fieldsOf : TypeDesc → List (Nat × Nat)
  | .struct fs => fs.toList.map fun f => (f.offset, f.type)
  | _ => []
def namesBad (P : Program) (t : TypeId) : Bool :=
  match P.underlying t with
  | some (.struct fs) => fs.toList.any fun f => f.name == "_"
  | _ => false
structure TyOk (P : Program) (t : TypeId) (i : TyI) : Prop where
  und0 : (P.underlying t).map (fun D => (bare D, fieldsOf D)) = some (i.d, i.fs)
  info0 : (P.info? t).map (fun f => (f.size, f.bytes, f.zero)) = some (i.size, i.bytes, some i.zero)
  zl : i.zero.cells.size = i.size
  eq0 : (!i.eq || !(P.stoodInHeld t || P.eqGuardType P.depth t || namesBad P t)) = true
theorem TyOk.und {P : Program} {t : TypeId} {i : TyI} (h : TyOk P t i) : ∃ D, P.underlying t = some D ∧ bare D = i.d ∧ fieldsOf D = i.fs := by
  obtain ⟨D, hD, he⟩ := Option.map_eq_some_iff.1 h.und0
  simp only [Prod.mk.injEq] at he
  exact ⟨D, hD, he.1, he.2⟩
theorem TyOk.info {P : Program} {t : TypeId} {i : TyI} (h : TyOk P t i) : ∃ f, P.info? t = some f ∧ f.size = i.size ∧ f.bytes = i.bytes ∧ f.zero = some i.zero := by
  obtain ⟨D, hD, he⟩ := Option.map_eq_some_iff.1 h.info0
  simp only [Prod.mk.injEq] at he
  exact ⟨D, hD, he.1, he.2.1, he.2.2⟩
def TysOk (P : Program) (τ : Tys) : Prop := ∀ t i, τ[t]? = some (some i) → TyOk P t i
def TysFrom (P : Program) : Nat → Tys → Prop
  | _, [] => True
  | n, none :: r => TysFrom P (n + 1) r
  | n, some i :: r => TyOk P n i ∧ TysFrom P (n + 1) r
theorem tys_from {P : Program} : ∀ {τ : Tys} {n : Nat}, TysFrom P n τ → ∀ t i, τ[t]? = some (some i) → TyOk P (n + t) i
  | [], _, _, t, i, h => by simp at h
  | none :: r, n, hf, t, i, h => by
    cases t with
    | zero => simp at h
    | succ t => have := tys_from (τ := r) hf t i (by simpa using h); rw [show n + (t + 1) = n + 1 + t from by omega]; exact this
  | some j :: r, n, hf, t, i, h => by
    cases t with
    | zero => simp at h; subst h; exact hf.1
    | succ t => have := tys_from (τ := r) hf.2 t i (by simpa using h); rw [show n + (t + 1) = n + 1 + t from by omega]; exact this
theorem tys_of {P : Program} {τ : Tys} (h : TysFrom P 0 τ) : TysOk P τ := fun t i hi => by have := tys_from h t i hi; rwa [Nat.zero_add] at this
def tyK (τ : Tys) (t : TypeId) (k : TyI → Prop) : Prop :=
  match τ, t with
  | [], _ => False
  | some i :: _, 0 => k i
  | none :: _, 0 => False
  | _ :: τ, n + 1 => tyK τ n k
theorem tyK_spec {k : TyI → Prop} : ∀ {τ : Tys} {t : TypeId}, tyK τ t k → ∃ i, τ[t]? = some (some i) ∧ k i
  | [], _, h => by simp [tyK] at h
  | some i :: _, 0, h => ⟨i, by simp, by simpa [tyK] using h⟩
  | none :: _, 0, h => by simp [tyK] at h
  | _ :: τ, n + 1, h => by
    obtain ⟨i, hi, hk⟩ := tyK_spec (τ := τ) (t := n) (by simpa [tyK] using h)
    exact ⟨i, by simpa using hi, hk⟩

/-- what an operation must lead to -/
def stepPost (P : Program) (K : Value → List HP → Prop) (X : List PanicEntry → List HP → Prop) : Result Next → Prop
  | .ok (.value v) w => ∃ L, Sat w L ∧ K v L
  | .ok .skip w => ∃ L, Sat w L ∧ K undef L
  | .ok (.enter f args) w => Calls P f args w fun
      | .returned v, w' => ∃ L, Sat w' L ∧ K v L
      | .panicked ch, w' => ∃ L, Sat w' L ∧ X ch L
      | .outgrown, _ => False
  | .halt (.panic v) w => ∃ L, Sat w L ∧ X [{ v, recovered := false }] L
  | _ => False
def Step (P : Program) (o : Oper) (l : Env) (L : List HP) (K : Value → List HP → Prop) (X : List PanicEntry → List HP → Prop) : Prop :=
  ∀ w, Sat w L → stepPost P K X ((execOp (evl l) o).run P w)
/-- an operation that is left to be run by hand -/
structure Raw (P : Program) (o : Oper) (l : Env) (L : List HP) (K : Value → List HP → Prop) (X : List PanicEntry → List HP → Prop) : Prop where
  go : Step P o l L K X

/-- a function's contract -/
structure Con (P : Program) (f : FuncId) (args : List Value) (L : List HP) (R : Value → List HP → Prop) (X : List PanicEntry → List HP → Prop := fun _ _ => False) : Prop where
  ent : ∃ fn, P.funcs[f]? = some fn ∧ (fn.name == "runtime.NumGoroutine") = false ∧ fn.body.isNone = false
  run : ∀ w, Sat w L → Calls P f args.toArray w fun
      | .returned v, w' => ∃ L', Sat w' L' ∧ R v L'
      | .panicked ch, w' => ∃ L', Sat w' L' ∧ X ch L'
      | .outgrown, _ => False
theorem Con.mono {P : Program} {f : FuncId} {args : List Value} {L : List HP} {R R' : Value → List HP → Prop} {X X' : List PanicEntry → List HP → Prop}
    (c : Con P f args L R X) (h : ∀ v L', R v L' → R' v L') (hx : ∀ v L', X v L' → X' v L') : Con P f args L R' X' :=
  ⟨c.ent, fun w s => (c.run w s).mono fun e w' => by
    cases e with
    | returned v => rintro ⟨L', s', r⟩; exact ⟨L', s', h _ _ r⟩
    | panicked ch => rintro ⟨L', s', r⟩; exact ⟨L', s', hx _ _ r⟩
    | outgrown => exact id⟩
/-- a call -/
structure Cl (P : Program) (f : FuncId) (args : List Value) (L : List HP) (K : Value → List HP → Prop) (X : List PanicEntry → List HP → Prop) : Prop where
  go : Con P f args L K X

def kindN : IntKind → Nat
  | .i8 => 0 | .i16 => 1 | .i32 => 2 | .i64 => 3 | .u8 => 4 | .u16 => 5 | .u32 => 6 | .u64 => 7
theorem kindN_inj {j k : IntKind} (h : Nat.beq (kindN j) (kindN k) = true) : j = k := by
  have h' := Nat.eq_of_beq_eq_true h
  cases j <;> cases k <;> first | rfl | (simp [kindN] at h')

/-- two integers -/
def intC (op : BinOp) (k : IntKind) (x y : Int) (K : Value → Prop) : Prop :=
  match op with
  | .add => Ar k (x + y) fun n => K (.int k n)
  | .sub => Ar k (x - y) fun n => K (.int k n)
  | .mul => Ar k (x * y) fun n => K (.int k n)
  | .quo => Nd (y ≠ 0) (Ar k (x.tdiv y) fun n => K (.int k n))
  | .rem => Nd (y ≠ 0) (K (.int k (x.tmod y)))
  | .and => Bt (bits .and k x y) fun n => K (.int k n)
  | .or => Bt (bits .or k x y) fun n => K (.int k n)
  | .xor => Bt (bits .xor k x y) fun n => K (.int k n)
  | .andNot => Bt (bits .andNot k x y) fun n => K (.int k n)
  | .eql => K (.bool (decide (x = y)))
  | .neq => K (.bool (!decide (x = y)))
  | .lss => K (.bool (decide (x < y)))
  | .leq => K (.bool (decide (x ≤ y)))
  | .gtr => K (.bool (decide (y < x)))
  | .geq => K (.bool (decide (y ≤ x)))
  | .shl => Nd (0 ≤ y) (Ar k (x * 2 ^ (min y.toNat k.bits)) fun n => K (.int k n))
  | .shr => Nd (0 ≤ y) (Bt (x.fdiv (2 ^ (min y.toNat k.bits))) fun n => K (.int k n))

def strC (op : BinOp) (x y : ByteArray) (K : Value → Prop) : Prop :=
  match op with
  | .add => Nd (x.size + y.size ≤ 9223372036854775807) (K (.string (x ++ y)))
  | .eql => K (.bool (decide (x = y)))
  | .neq => K (.bool (!decide (x = y)))
  | _ => False

end Go.Eng
