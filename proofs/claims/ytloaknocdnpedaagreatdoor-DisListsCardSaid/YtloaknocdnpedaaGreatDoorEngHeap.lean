/- Assertions on memory: a list of parts, each a predicate on a list of blocks with what they hold; parts share no block. -/
import Derived.Calls
import Derived.Laws.World
set_option linter.all false
namespace Go.Eng

abbrev Chunk := List (Nat × Obj)
/-- what is beside the memory -/
abbrev Out := Os × Array (Nat × ByteArray)
def HP := Out → Chunk → Prop
def World.out (w : World) : Out := (w.os, w.output)

/-- the chunks of parts -/
def Parts (e : Out) : List HP → Chunk → Prop
  | [], h => h = []
  | A :: L, h => ∃ h1 h2, h = h1 ++ h2 ∧ A e h1 ∧ Parts e L h2

structure OkH (w : World) (h : Chunk) : Prop where
  nd : (h.map (·.1)).Nodup
  on : ∀ p ∈ h, w.heap[p.1]? = some p.2

def Sat (w : World) (L : List HP) : Prop := ∃ h, Parts (World.out w) L h ∧ OkH w h

/-- one whole block -/
def pto (b : Nat) (o : Obj) : HP := fun _ h => h = [(b, o)]
/-- one block of cells that may be written -/
def ptc (b : Nat) (t : TypeId) (cs : List Value) : HP := pto b (.cells cs.toArray t (0, 0))
/-- all blocks of a world, as they were -/
def oldChunk (W : World) : Chunk := (List.range W.heap.size).map fun i => (i, W.heap.getD i (.deferred none))
def old (W : World) : HP := fun e h => e = World.out W ∧ h = oldChunk W

theorem parts_append {e : Out} {L M : List HP} : ∀ {h : Chunk}, Parts e (L ++ M) h ↔ ∃ h1 h2, h = h1 ++ h2 ∧ Parts e L h1 ∧ Parts e M h2 := by
  induction L with
  | nil =>
    intro h
    constructor
    · intro hp; exact ⟨[], h, rfl, rfl, hp⟩
    · rintro ⟨h1, h2, rfl, hz, hm⟩
      have hz' : h1 = [] := hz
      subst hz'
      exact hm
  | cons A L ih =>
    intro h
    constructor
    · rintro ⟨h1, h2, rfl, ha, hp⟩
      obtain ⟨h3, h4, rfl, hl, hm⟩ := ih.1 hp
      exact ⟨h1 ++ h3, h4, by simp, ⟨h1, h3, rfl, ha, hl⟩, hm⟩
    · rintro ⟨h1, h2, rfl, ⟨h3, h4, rfl, ha, hl⟩, hm⟩
      exact ⟨h3, h4 ++ h2, by simp, ha, ih.2 ⟨h4, h2, rfl, hl, hm⟩⟩

theorem OkH.perm {w : World} {h k : Chunk} (hp : h.Perm k) (o : OkH w h) : OkH w k :=
  ⟨(hp.map (·.1)).nodup_iff.1 o.nd, fun p hm => o.on p (hp.mem_iff.2 hm)⟩

theorem OkH.right {w : World} {h k : Chunk} (o : OkH w (h ++ k)) : OkH w k :=
  ⟨by have := o.nd; rw [List.map_append] at this; exact (List.nodup_append.1 this).2.1, fun p hm => o.on p (List.mem_append_right _ hm)⟩
theorem OkH.left {w : World} {h k : Chunk} (o : OkH w (h ++ k)) : OkH w h :=
  ⟨by have := o.nd; rw [List.map_append] at this; exact (List.nodup_append.1 this).1, fun p hm => o.on p (List.mem_append_left _ hm)⟩

theorem Parts.perm {e : Out} {L M : List HP} (hp : L.Perm M) : ∀ {h}, Parts e L h → ∃ k, Parts e M k ∧ h.Perm k := by
  induction hp with
  | nil => intro h hh; exact ⟨h, hh, .refl _⟩
  | cons A _ ih =>
    rintro h ⟨h1, h2, rfl, ha, hl⟩
    obtain ⟨k, hk, hkp⟩ := ih hl
    exact ⟨h1 ++ k, ⟨h1, k, rfl, ha, hk⟩, List.Perm.append_left _ hkp⟩
  | swap A B L =>
    rintro h ⟨h1, h2, rfl, hb, h3, h4, rfl, ha, hl⟩
    refine ⟨h3 ++ (h1 ++ h4), ⟨h3, _, rfl, ha, h1, h4, rfl, hb, hl⟩, ?_⟩
    rw [← List.append_assoc, ← List.append_assoc]
    exact List.Perm.append_right _ List.perm_append_comm
  | trans _ _ ih1 ih2 =>
    intro h hh
    obtain ⟨k, hk, p1⟩ := ih1 hh
    obtain ⟨m, hm, p2⟩ := ih2 hk
    exact ⟨m, hm, p1.trans p2⟩

theorem Sat.perm {w : World} {L M : List HP} (hp : L.Perm M) (s : Sat w L) : Sat w M := by
  obtain ⟨h, hh, o⟩ := s
  obtain ⟨k, hk, p⟩ := hh.perm hp
  exact ⟨k, hk, o.perm p⟩

theorem Sat.tail {w : World} {A : HP} {L : List HP} (s : Sat w (A :: L)) : Sat w L := by
  obtain ⟨h, ⟨h1, h2, rfl, _, hl⟩, o⟩ := s
  exact ⟨h2, hl, o.right⟩

theorem Sat.right {w : World} {L M : List HP} (s : Sat w (L ++ M)) : Sat w M := by
  obtain ⟨h, hp, o⟩ := s
  obtain ⟨h1, h2, rfl, _, hm⟩ := parts_append.1 hp
  exact ⟨h2, hm, o.right⟩

theorem Sat.sub {w : World} {L M : List HP} (hs : M.Sublist L) : Sat w L → Sat w M := by
  have key : ∀ {h}, Parts (World.out w) L h → ∃ k, Parts (World.out w) M k ∧ k.Sublist h := by
    induction hs with
    | slnil => intro h hh; exact ⟨h, hh, List.Sublist.refl _⟩
    | cons A _ ih =>
      rintro h ⟨h1, h2, rfl, _, hl⟩
      obtain ⟨k, hk, hks⟩ := ih hl
      exact ⟨k, hk, hks.trans (List.sublist_append_right _ _)⟩
    | cons_cons A _ ih =>
      rintro h ⟨h1, h2, rfl, ha, hl⟩
      obtain ⟨k, hk, hks⟩ := ih hl
      exact ⟨h1 ++ k, ⟨h1, k, rfl, ha, hk⟩, List.Sublist.append (List.Sublist.refl _) hks⟩
  rintro ⟨h, hh, o⟩
  obtain ⟨k, hk, hks⟩ := key hh
  exact ⟨k, hk, ⟨(hks.map _).nodup o.nd, fun p hm => o.on p (hks.subset hm)⟩⟩

/-- what a part says of the memory -/
theorem Sat.at {w : World} {L : List HP} {A : HP} (s : Sat w L) (i : Nat) (hi : L[i]? = some A) : ∃ h, A (World.out w) h ∧ OkH w h := by
  obtain ⟨h, hp, o⟩ := s
  induction L generalizing h i with
  | nil => simp at hi
  | cons B L ih =>
    obtain ⟨h1, h2, rfl, hb, hl⟩ := hp
    cases i with
    | zero => simp at hi; subst hi; exact ⟨h1, hb, o.left⟩
    | succ i => exact ih i (by simpa using hi) h2 hl o.right

theorem Sat.mem {w : World} {L : List HP} {A : HP} (s : Sat w L) (hi : A ∈ L) : ∃ h, A (World.out w) h ∧ OkH w h := by
  obtain ⟨i, hi⟩ := List.getElem?_of_mem hi
  exact s.at i hi

theorem Sat.pto {w : World} {L : List HP} {b : Nat} {o : Obj} (s : Sat w L) (i : Nat) (hi : L[i]? = some (pto b o)) : w.heap[b]? = some o := by
  obtain ⟨h, rfl, ok⟩ := s.at i hi
  exact ok.on (b, o) (by simp)

theorem mem_oldChunk {W : World} {b : Nat} {o : Obj} : (b, o) ∈ oldChunk W ↔ W.heap[b]? = some o := by
  unfold oldChunk
  rw [List.mem_map]
  constructor
  · rintro ⟨i, hi, he⟩
    rw [List.mem_range] at hi
    cases he
    rw [Array.getElem?_eq_getElem hi]
    simp [Array.getD, hi]
  · intro h
    have hb : b < W.heap.size := by
      rcases Nat.lt_or_ge b W.heap.size with h' | h'
      · exact h'
      · rw [Array.getElem?_eq_none h'] at h; simp at h
    refine ⟨b, List.mem_range.2 hb, ?_⟩
    rw [Array.getElem?_eq_getElem hb] at h
    simp only [Option.some.injEq] at h
    simp [Array.getD, hb, h]

theorem Sat.old {w W : World} {L : List HP} (s : Sat w L) (i : Nat) (hi : L[i]? = some (Eng.old W)) {b : Nat} {o : Obj} (hb : W.heap[b]? = some o) : w.heap[b]? = some o := by
  obtain ⟨h, ⟨_, rfl⟩, ok⟩ := s.at i hi
  exact ok.on (b, o) (mem_oldChunk.2 hb)

theorem OkH.lt {w : World} {h : Chunk} (o : OkH w h) {p : Nat × Obj} (hm : p ∈ h) : p.1 < w.heap.size := by
  have := o.on p hm
  rcases Nat.lt_or_ge p.1 w.heap.size with h' | h'
  · exact h'
  · rw [Array.getElem?_eq_none h'] at this; simp at this

theorem sat_start (W : World) : Sat W [old W] := by
  refine ⟨oldChunk W, ⟨oldChunk W, [], by simp, ⟨rfl, rfl⟩, rfl⟩, ?_, fun p hm => ?_⟩
  · unfold oldChunk
    rw [List.map_map]
    have : ((fun x : Nat × Obj => x.1) ∘ fun i => (i, W.heap.getD i (Obj.deferred none))) = id := by funext i; rfl
    rw [this, List.map_id]
    exact List.nodup_range
  · exact mem_oldChunk.1 hm

theorem OkH.congr {w w' : World} {h : Chunk} (o : OkH w h) (he : ∀ p ∈ h, w'.heap[p.1]? = w.heap[p.1]?) : OkH w' h :=
  ⟨o.nd, fun p hm => (he p hm).trans (o.on p hm)⟩

theorem Sat.heap {w w' : World} {L : List HP} (s : Sat w L) (he : w'.heap = w.heap) (ho : World.out w' = World.out w) : Sat w' L := by
  obtain ⟨h, hp, o⟩ := s
  exact ⟨h, by rw [ho]; exact hp, o.congr fun p _ => by rw [he]⟩

/-- a new block -/
theorem Sat.alloc {w : World} {L : List HP} (s : Sat w L) (o : Obj) : Sat (w.alloc o) (Eng.pto w.heap.size o :: L) := by
  obtain ⟨h, hp, ok⟩ := s
  have hlt : ∀ p ∈ h, p.1 < w.heap.size := fun p hm => ok.lt hm
  refine ⟨(w.heap.size, o) :: h, ⟨[(w.heap.size, o)], h, rfl, rfl, hp⟩, ?_, ?_⟩
  · rw [List.map_cons, List.nodup_cons]
    refine ⟨fun hm => ?_, ok.nd⟩
    obtain ⟨p, hm, he⟩ := List.mem_map.1 hm
    have := hlt p hm
    simp at he
    omega
  · intro p hm
    rw [List.mem_cons] at hm
    rcases hm with rfl | hm
    · show (w.heap.push o)[w.heap.size]? = some o
      simp
    · have := hlt p hm
      show (w.heap.push o)[p.1]? = _
      rw [Array.getElem?_push, if_neg (by omega)]
      exact ok.on p hm

/-- a block is turned: all other parts stay -/
theorem Sat.turn {w w' : World} {L : List HP} (s : Sat w L) (i : Nat) {b : Nat} {o o' : Obj} (hi : L[i]? = some (Eng.pto b o))
    (hb : w'.heap[b]? = some o') (hr : ∀ c, c ≠ b → w'.heap[c]? = w.heap[c]?) (ho : World.out w' = World.out w) : Sat w' (L.set i (Eng.pto b o')) := by
  obtain ⟨h, hp, ok⟩ := s
  have key : ∀ (L : List HP) (i : Nat) (h : Chunk), L[i]? = some (Eng.pto b o) → Parts (World.out w) L h → OkH w h → ∃ h1 h2, h = h1 ++ (b, o) :: h2 ∧ Parts (World.out w) (L.set i (Eng.pto b o')) (h1 ++ (b, o') :: h2) := by
    intro L
    induction L with
    | nil => intro i h hi; simp at hi
    | cons A L ih =>
      rintro i h hi ⟨h1, h2, rfl, ha, hl⟩ ok
      cases i with
      | zero =>
        simp at hi
        subst hi
        cases ha
        exact ⟨[], h2, rfl, [(b, o')], h2, rfl, rfl, hl⟩
      | succ i =>
        obtain ⟨k1, k2, rfl, hp⟩ := ih i h2 (by simpa using hi) hl ok.right
        exact ⟨h1 ++ k1, k2, by simp, h1, _, by simp, ha, hp⟩
  obtain ⟨h1, h2, rfl, hp'⟩ := key L i h hi hp ok
  refine ⟨_, by rw [ho]; exact hp', ?_, ?_⟩
  · have := ok.nd
    simpa using this
  · intro p hm
    have hnd := ok.nd
    rw [List.map_append, List.map_cons, List.nodup_append] at hnd
    obtain ⟨_, hn2, hdis⟩ := hnd
    rw [List.nodup_cons] at hn2
    rcases List.mem_append.1 hm with hm | hm
    · have hne : p.1 ≠ b := hdis p.1 (List.mem_map_of_mem (f := (·.1)) hm) b (by simp)
      rw [hr _ hne]
      exact ok.on p (List.mem_append_left _ hm)
    · rcases List.mem_cons.1 hm with rfl | hm
      · exact hb
      · have hne : p.1 ≠ b := fun he => hn2.1 (by rw [← he]; exact List.mem_map_of_mem (f := (·.1)) hm)
        rw [hr _ hne]
        exact ok.on p (List.mem_append_right _ (List.mem_cons_of_mem _ hm))

/-- a part is said otherwise -/
theorem Sat.weak {w : World} {L : List HP} (s : Sat w L) (i : Nat) {A B : HP} (hi : L[i]? = some A) (h : ∀ c, A (World.out w) c → B (World.out w) c) : Sat w (L.set i B) := by
  obtain ⟨c, hp, ok⟩ := s
  refine ⟨c, ?_, ok⟩
  clear ok
  induction L generalizing i c with
  | nil => simp at hi
  | cons C L ih =>
    obtain ⟨h1, h2, rfl, ha, hl⟩ := hp
    cases i with
    | zero => simp at hi; subst hi; exact ⟨h1, h2, rfl, h _ ha, hl⟩
    | succ i => exact ⟨h1, h2, rfl, ha, ih i (by simpa using hi) h2 hl⟩

/-- the first part is opened into some -/
theorem Sat.opened {w : World} {L M : List HP} {A : HP} (s : Sat w (A :: L)) (h : ∀ e c, A e c → Parts e M c) : Sat w (M ++ L) := by
  obtain ⟨c, ⟨h1, h2, rfl, ha, hl⟩, ok⟩ := s
  exact ⟨h1 ++ h2, parts_append.2 ⟨h1, h2, rfl, h _ _ ha, hl⟩, ok⟩
/-- some first parts are shut into one -/
theorem Sat.shut {w : World} {L M : List HP} {A : HP} (s : Sat w (M ++ L)) (h : ∀ e c, Parts e M c → A e c) : Sat w (A :: L) := by
  obtain ⟨c, hp, ok⟩ := s
  obtain ⟨h1, h2, rfl, hm, hl⟩ := parts_append.1 hp
  exact ⟨h1 ++ h2, ⟨h1, h2, rfl, h _ _ hm, hl⟩, ok⟩

theorem Sat.ne {w : World} {L : List HP} {b c : Nat} {o p : Obj} (s : Sat w (Eng.pto b o :: Eng.pto c p :: L)) : b ≠ c := by
  obtain ⟨h, ⟨h1, h2, rfl, rfl, h3, h4, rfl, rfl, _⟩, ok⟩ := s
  have := ok.nd
  simp at this
  exact this.1.1

/-- the old world as it was -/
theorem Sat.out {w W : World} {L : List HP} (s : Sat w L) (i : Nat) (hi : L[i]? = some (Eng.old W)) : w.os = W.os ∧ w.output = W.output := by
  obtain ⟨h, ⟨he, _⟩, _⟩ := s.at i hi
  simp only [World.out, Prod.mk.injEq] at he
  exact he

/-- one list of parts gives another one -/
def Ent (L M : List HP) : Prop := ∀ w, Sat w L → Sat w M
protected theorem Ent.rfl {L : List HP} : Ent L L := fun _ s => s
theorem Ent.trans {L M N : List HP} (h : Ent L M) (k : Ent M N) : Ent L N := fun w s => k w (h w s)
theorem Ent.perm {L M : List HP} (h : L.Perm M) : Ent L M := fun _ s => s.perm h
theorem Ent.sub {L M : List HP} (h : M.Sublist L) : Ent L M := fun _ s => s.sub h
theorem Ent.drop {A : HP} {L M : List HP} (h : Ent L M) : Ent (A :: L) M := fun w s => h w s.tail
theorem Ent.drops {K L M : List HP} (h : Ent L M) : Ent (K ++ L) M := fun w s => h w s.right
end Go.Eng
