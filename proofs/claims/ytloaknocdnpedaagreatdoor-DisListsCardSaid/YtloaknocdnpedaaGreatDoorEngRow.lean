/- From a contract to the row's own words. -/
import Derived.Test.YtloaknocdnpedaaGreatDoorEngRules
import Derived.ChangeSame
import Derived.RowKit3
import Derived.ProofKit
import Derived.OpenShut
set_option linter.all false
namespace Go.Eng
open Go.ChangeShapes
variable {P : Program}

/-- the world behind a call that has changed nothing of what was there -/
structure Stays (W w' : World) : Prop where
  kept : W.keptBut w' (fun _ => False)
  fz : ∀ b off, b < W.heap.size → w'.frozen? ⟨b, off, none⟩ = W.frozen? ⟨b, off, none⟩
  heap : ∀ b, b < W.heap.size → w'.heap[b]? = W.heap[b]?

theorem stays_of {W w' : World} {L : List HP} (s : Sat w' L) (i : Nat) (hi : L[i]? = some (old W)) : Stays W w' := by
  have hb : ∀ b, b < W.heap.size → w'.heap[b]? = W.heap[b]? := fun b h => by
    rw [Array.getElem?_eq_getElem h]
    exact s.old i hi (Array.getElem?_eq_getElem h)
  obtain ⟨h1, h2⟩ := s.out i hi
  refine ⟨⟨h1, h2, fun b h => ?_⟩, fun b off h => by simp only [World.frozen?]; rw [hb b h], hb⟩
  rw [hb b h]
  split
  · rename_i c t fr c' t' fr' e1 e2
    rw [e1] at e2
    cases e2
    exact ⟨rfl, rfl, rfl, fun _ _ => rfl⟩
  · rename_i es c es' c' e1 e2
    rw [e1] at e2
    cases e2
    exact .inr ⟨rfl, rfl⟩
  · rfl

theorem calls_of_con {f : FuncId} {args : List Value} {W : World} {R : Value → List HP → Prop} (c : Con P f args [old W] R) :
    Calls P f args.toArray W fun e w' => ∃ v L, e = .returned v ∧ Sat w' L ∧ R v L := by
  refine (c.run W (sat_start W)).mono fun e w' h => ?_
  cases e with
  | returned v => obtain ⟨L, s, r⟩ := h; exact ⟨v, L, rfl, s, r⟩
  | panicked ch => obtain ⟨_, _, r⟩ := h; exact r.elim
  | outgrown => exact h.elim

/-- a law's row: it returns true, all is as it was -/
theorem law_calls {f : FuncId} {args : List Value} {W : World} (c : Con P f args [old W] (Is (.bool true) [old W])) :
    Calls P f args.toArray W fun e w' => e = .returned (.bool true) ∧ Stays W w' := by
  refine (calls_of_con c).mono fun e w' h => ?_
  obtain ⟨v, L, rfl, s, r⟩ := h
  exact ⟨by rw [r.v], stays_of (r.l _ s) 0 rfl⟩

section
variable {H : Type} {enc : TypeId × Value → H}
/-- the kit's 'post_of_same', at a world that may hold new blocks of whatever kind -/
theorem post_stays {f : Func} {s : ChangeSpec} {apart fresh handsOn again : Bool} {W W' : World} {args : Array Value} {v : Value} {ds gs : List (DataW H)} {before pa pv : List MemPlace}
    (hW : DataW.Whole enc P f.params.toList s.vars apart W args.toList ds gs before)
    (hres : ∀ (b : Nat) (sp : Nat → Bool) (hd : Bool), DataW.TrodAll enc P W' b sp hd f.resultTypes.toList (v.resultList f.resultTypes.size) (s.fn H (ds ++ gs)).results [])
    (hargs : ∀ sp : Nat → Bool, (∀ p ∈ before, sp p.block = true) → DataW.TrodAll enc P W' 0 sp true f.params.toList args.toList (s.fn H (ds ++ gs)).args pa)
    (hvars : ∀ sp : Nat → Bool, (∀ p ∈ before, sp p.block = true) → DataW.TrodVars enc P W' sp s.vars (s.fn H (ds ++ gs)).vars pv)
    (hps : before = pa ++ pv) (hst : Stays W W')
    (hok : ∀ (j : Nat) (t : TypeId) (r : Value), f.resultTypes[j]? = some t → (v.resultList f.resultTypes.size)[j]? = some r → Value.okWide P W' .any 0 t r) :
    s.post enc P f apart fresh handsOn again W args v W' := by
  have hlt : ∀ p ∈ before, p.block < W.heap.size := fun p hp => hW.lt p hp
  have hold : ∀ p ∈ before, (fun b => decide (b < W.heap.size)) p.block = true := fun p hp => by simpa using hlt p hp
  refine ⟨ds, gs, before, [], pa, pv, hW, hres _ _ _, hargs _ hold, hvars _ hold, World.keptBut_mono (fun _ h => h.elim) hst.kept, fun _ => ?_⟩
  obtain ⟨_, _, _, _, _, hz, hn⟩ := hW
  refine ⟨hok, _, _, ([] ++ pa) ++ pv, ⟨[] ++ pa, pv, trodAll_append (hargs _ (fun _ _ => rfl)) (hres _ _ _), hvars _ (fun _ _ => rfl), rfl, ?_, ?_⟩, ?_⟩
  · intro b off hp
    have hp' : MemPlace.cell b off ∈ before := by rw [hps]; simpa using hp
    have hb := hlt _ hp'
    rw [hst.fz b off hb]
    exact hz b off hp'
  · intro ha
    have := hn ha
    rw [hps] at this
    simpa using this
  · intro p hp _
    rw [hps]
    simpa using hp
end
end Go.Eng
