/- Maps, as parts of memory: reading and writing. -/
import Derived.Test.YtdjpcfaidgofoaaGreatEngFrame
import Derived.MapKept
set_option linter.all false
namespace Go.Eng
open Go.MapKept
set_option linter.unusedVariables false
variable {P : Program} {τ : Tys} {L : List HP}
/-- a map: its entries' keys and values, in the order in which they came -/
def mapH (b : Nat) (d : TypeDesc) (es : List (Value × Value)) : HP := fun _ h => ∃ (xs : Array MapEntry) (n : Nat), h = [(b, .map xs n)] ∧ xs.toList.map (fun e => (e.key, e.val)) = es ∧ Stamped xs n ∧ ∀ x ∈ xs.toList, IsKey d x.key
theorem Nw.map (d : TypeDesc) {K : Nat → List HP → Prop} (k : ∀ b, K b (mapH b d [] :: L)) : Nw (.map #[] 0) L K :=
  ⟨fun b => ⟨mapH b d [], fun w s => s.weak 0 rfl (fun h hh => ⟨#[], 0, hh, rfl, stamped_empty 0, by simp⟩), k b⟩⟩
theorem Sat.map {w : World} {b : Nat} {d : TypeDesc} {es : List (Value × Value)} (s : Sat w L) (i : Nat) (hi : L[i]? = some (mapH b d es)) :
    ∃ (xs : Array MapEntry) (n : Nat), w.heap[b]? = some (.map xs n) ∧ xs.toList.map (fun e => (e.key, e.val)) = es ∧ Stamped xs n ∧ ∀ x ∈ xs.toList, IsKey d x.key := by
  obtain ⟨h, ⟨xs, n, rfl, h1, h2, h3⟩, ok⟩ := s.at i hi
  exact ⟨xs, n, ok.on (b, _) (by simp), h1, h2, h3⟩
/-- a map is turned -/
theorem Sat.mapTurn {w w' : World} {b : Nat} {d : TypeDesc} {es es' : List (Value × Value)} (s : Sat w L) (i : Nat) (hi : L[i]? = some (mapH b d es)) {ys : Array MapEntry} {m : Nat}
    (hb : w'.heap[b]? = some (.map ys m)) (hr : ∀ c, c ≠ b → w'.heap[c]? = w.heap[c]?) (ho : World.out w' = World.out w) (he : ys.toList.map (fun e => (e.key, e.val)) = es') (hs : Stamped ys m) (hk : ∀ x ∈ ys.toList, IsKey d x.key) : Sat w' (L.set i (mapH b d es')) := by
  obtain ⟨o, s1⟩ := s.ex (B := fun o : Obj => Eng.pto b o) i hi (fun h hh => by obtain ⟨xs, n, rfl, _⟩ := hh; exact ⟨_, rfl⟩)
  have hlt := (List.getElem?_eq_some_iff.1 hi).1
  have s2 := s1.turn (o' := .map ys m) i (List.getElem?_set_self hlt) hb hr ho
  rw [List.set_set] at s2
  have s3 := s2.weak (B := mapH b d es') i (List.getElem?_set_self hlt) (fun h hh => ⟨ys, m, hh, he, hs, hk⟩)
  rw [List.set_set] at s3
  exact s3
theorem key_plain {d : TypeDesc} {k : Value} (h : IsKey d k) : plainD d = true := by
  cases d <;> cases k <;> simp_all [IsKey, plainD]
theorem und_map {t kt et : TypeId} {i : TyI} (h : TyOk P t i) (hd : i.d = .map kt et) : P.underlying t = some (.map kt et) := by
  obtain ⟨D, hD, hb, _⟩ := h.und
  rw [hD]
  rw [hd] at hb
  cases D <;> simp [bare] at hb
  obtain ⟨rfl, rfl⟩ := hb; rfl
theorem und_key {t : TypeId} {i : TyI} {k : Value} (h : TyOk P t i) (hk : IsKey i.d k) : P.underlying t = some i.d := by
  obtain ⟨D, hD, hb, _⟩ := h.und
  rw [hD]
  have : D = i.d := by
    rw [← hb] at hk ⊢
    cases D <;> first | rfl | (cases k <;> exact False.elim hk)
  rw [this]
theorem at_uniq {xs : Array MapEntry} {n j j' : Nat} {e e' : MapEntry} (hs : Stamped xs n) (h : xs.toList[j]? = some e) (h' : xs.toList[j']? = some e') (hk : e.key = e'.key) : j = j' := by
  obtain ⟨h1, e1⟩ := List.getElem?_eq_some_iff.1 h
  obtain ⟨h2, e2⟩ := List.getElem?_eq_some_iff.1 h'
  have hp := List.pairwise_iff_getElem.1 ((stamped_iff xs n).1 hs).2.2
  rcases Nat.lt_trichotomy j j' with g | g | g
  · exact (hp j j' h1 h2 g (by rw [e1, e2]; exact hk)).elim
  · exact g
  · exact (hp j' j h2 h1 g (by rw [e1, e2]; exact hk.symm)).elim
theorem Sm.lkYes (hτ : TysOk P τ) {t kt et b : Nat} {ti ki : TyI} {ok : Bool} {d : TypeDesc} {es : List (Value × Value)} {key v : Value} {K : Value → List HP → Prop} (i : Nat) (hi : L[i]? = some (mapH b d es))
    (ht : τ[t]? = some (some ti)) (htd : ti.d = .map kt et) (hk : τ[kt]? = some (some ki)) (hd : ki.d = d) (hkey : IsKey d key) (j : Nat) (hj : es[j]? = some (key, v))
    (k : K (bif ok then .tuple #[v, .bool true] else v) L) : Sm P (Instr.lookup t (.map (some b)) key ok) L K := by
  subst hd
  refine ⟨fun w s => ⟨_, w, L, ?_, s, k⟩⟩
  obtain ⟨xs, n, hb, h1, h2, h3⟩ := s.map i hi
  have hm := und_map (hτ _ _ ht) htd
  have hkd := und_key (hτ _ _ hk) hkey
  have hj' : (xs.toList.map (fun e => (e.key, e.val)))[j]? = some (key, v) := by rw [h1]; exact hj
  rw [List.getElem?_map] at hj'
  obtain ⟨e, he, hev⟩ := Option.map_eq_some_iff.1 hj'
  simp only [Prod.mk.injEq] at hev
  rcases findNow_spec hkey xs.toList 0 h3 with ⟨_, g2⟩ | ⟨j', e', g1, g2, g3⟩
  · exact (g2 e (List.mem_of_getElem? he) hev.1).elim
  · have hjj := at_uniq h2 he g2 (hev.1.trans g3.symm)
    subst hjj
    rw [he] at g2
    cases g2
    rw [hev.2] at g1
    cases ok <;> simp [Instr.lookup, run_underlying hm, MapKept.run_getObj_map hb, MapKept.run_checkKey hkd hkey, MapKept.run_findKey hkd g1, Result.andThen]
theorem Sm.lkNo (hτ : TysOk P τ) {t kt et b : Nat} {ti ki ei : TyI} {ok : Bool} {d : TypeDesc} {es : List (Value × Value)} {key : Value} {K : Value → List HP → Prop} (i : Nat) (hi : L[i]? = some (mapH b d es))
    (ht : τ[t]? = some (some ti)) (htd : ti.d = .map kt et) (hk : τ[kt]? = some (some ki)) (he : τ[et]? = some (some ei)) (hd : ki.d = d) (hkey : IsKey d key) (hno : ∀ p ∈ es, p.1 ≠ key)
    (k : K (bif ok then .tuple #[ei.zero, .bool false] else ei.zero) L) : Sm P (Instr.lookup t (.map (some b)) key ok) L K := by
  subst hd
  refine ⟨fun w s => ⟨_, w, L, ?_, s, k⟩⟩
  obtain ⟨xs, n, hb, h1, h2, h3⟩ := s.map i hi
  have hm := und_map (hτ _ _ ht) htd
  have hkd := und_key (hτ _ _ hk) hkey
  have hz := zeroOf (hτ _ _ he) w
  rcases findNow_spec hkey xs.toList 0 h3 with ⟨g1, _⟩ | ⟨j', e', g1, g2, g3⟩
  · cases ok <;> simp [Instr.lookup, run_underlying hm, MapKept.run_getObj_map hb, MapKept.run_checkKey hkd hkey, MapKept.run_findKey hkd g1, hz, Result.andThen]
  · exact (hno (e'.key, e'.val) (by rw [← h1]; exact List.mem_map.2 ⟨e', List.mem_of_getElem? g2, rfl⟩) g3).elim
theorem SR.lkYes (hτ : TysOk P τ) {t kt et b : Nat} {ti ki : TyI} {ok : Bool} {d : TypeDesc} {es : List (Value × Value)} {key v : Value} {K : Value → Prop} (i : Nat) (hi : L[i]? = some (mapH b d es))
    (ht : τ[t]? = some (some ti)) (htd : ti.d = .map kt et) (hk : τ[kt]? = some (some ki)) (hd : ki.d = d) (hkey : IsKey d key) (j : Nat) (hj : es[j]? = some (key, v))
    (k : K (bif ok then .tuple #[v, .bool true] else v)) : SR P (Instr.lookup t (.map (some b)) key ok) L K := by
  subst hd
  refine ⟨_, fun w s => ?_, k⟩
  obtain ⟨xs, n, hb, h1, h2, h3⟩ := s.map i hi
  have hm := und_map (hτ _ _ ht) htd
  have hkd := und_key (hτ _ _ hk) hkey
  have hj' : (xs.toList.map (fun e => (e.key, e.val)))[j]? = some (key, v) := by rw [h1]; exact hj
  rw [List.getElem?_map] at hj'
  obtain ⟨e, he, hev⟩ := Option.map_eq_some_iff.1 hj'
  simp only [Prod.mk.injEq] at hev
  rcases findNow_spec hkey xs.toList 0 h3 with ⟨_, g2⟩ | ⟨j', e', g1, g2, g3⟩
  · exact (g2 e (List.mem_of_getElem? he) hev.1).elim
  · have hjj := at_uniq h2 he g2 (hev.1.trans g3.symm)
    subst hjj
    rw [he] at g2
    cases g2
    rw [hev.2] at g1
    cases ok <;> simp [Instr.lookup, run_underlying hm, MapKept.run_getObj_map hb, MapKept.run_checkKey hkd hkey, MapKept.run_findKey hkd g1, Result.andThen]
theorem SR.lkNo (hτ : TysOk P τ) {t kt et b : Nat} {ti ki ei : TyI} {ok : Bool} {d : TypeDesc} {es : List (Value × Value)} {key : Value} {K : Value → Prop} (i : Nat) (hi : L[i]? = some (mapH b d es))
    (ht : τ[t]? = some (some ti)) (htd : ti.d = .map kt et) (hk : τ[kt]? = some (some ki)) (he : τ[et]? = some (some ei)) (hd : ki.d = d) (hkey : IsKey d key) (hno : ∀ p ∈ es, p.1 ≠ key)
    (k : K (bif ok then .tuple #[ei.zero, .bool false] else ei.zero)) : SR P (Instr.lookup t (.map (some b)) key ok) L K := by
  subst hd
  refine ⟨_, fun w s => ?_, k⟩
  obtain ⟨xs, n, hb, h1, h2, h3⟩ := s.map i hi
  have hm := und_map (hτ _ _ ht) htd
  have hkd := und_key (hτ _ _ hk) hkey
  have hz := zeroOf (hτ _ _ he) w
  rcases findNow_spec hkey xs.toList 0 h3 with ⟨g1, _⟩ | ⟨j', e', g1, g2, g3⟩
  · cases ok <;> simp [Instr.lookup, run_underlying hm, MapKept.run_getObj_map hb, MapKept.run_checkKey hkd hkey, MapKept.run_findKey hkd g1, hz, Result.andThen]
  · exact (hno (e'.key, e'.val) (by rw [← h1]; exact List.mem_map.2 ⟨e', List.mem_of_getElem? g2, rfl⟩) g3).elim
theorem Sm.putNew (hτ : TysOk P τ) {t kt et b : Nat} {ti ki : TyI} {d : TypeDesc} {es : List (Value × Value)} {key v : Value} {K : Value → List HP → Prop} (i : Nat) (hi : L[i]? = some (mapH b d es))
    (ht : τ[t]? = some (some ti)) (htd : ti.d = .map kt et) (hk : τ[kt]? = some (some ki)) (hd : ki.d = d) (hkey : IsKey d key) (hno : ∀ p ∈ es, p.1 ≠ key)
    (k : lsetK L i (mapH b d (es ++ [(key, v)])) (K undef)) : Sm P (do Instr.mapUpdate t (.map (some b)) key v; pure undef) L K := by
  subst hd
  rw [lsetK_eq] at k
  refine ⟨fun w s => ?_⟩
  obtain ⟨xs, n, hb, h1, h2, h3⟩ := s.map i hi
  have hm := und_map (hτ _ _ ht) htd
  have hkd := und_key (hτ _ _ hk) hkey
  rcases findNow_spec hkey xs.toList 0 h3 with ⟨g1, g2⟩ | ⟨j', e', g1, g2, g3⟩
  · refine ⟨_, _, _, by simp [Instr.mapUpdate, run_underlying hm, MapKept.run_getObj_map hb, MapKept.run_checkKey hkd hkey, MapKept.run_findKey hkd g1, MapKept.run_setObj_map _ hb, Result.andThen]; rfl, ?_, k⟩
    refine s.mapTurn i hi (heap_set hb).1 (fun c hc => (heap_set hb).2 c hc) rfl (by simp [← h1]) (stamped_push h2 g2) (fun x hx => ?_)
    simp only [Array.toList_push, List.mem_append, List.mem_singleton] at hx
    rcases hx with hx | rfl
    · exact h3 x hx
    · exact hkey
  · exact (hno (e'.key, e'.val) (by rw [← h1]; exact List.mem_map.2 ⟨e', List.mem_of_getElem? g2, rfl⟩) g3).elim
theorem Sm.putAt (hτ : TysOk P τ) {t kt et b : Nat} {ti ki : TyI} {d : TypeDesc} {es : List (Value × Value)} {key v v0 : Value} {K : Value → List HP → Prop} (i : Nat) (hi : L[i]? = some (mapH b d es))
    (ht : τ[t]? = some (some ti)) (htd : ti.d = .map kt et) (hk : τ[kt]? = some (some ki)) (hd : ki.d = d) (hkey : IsKey d key) (j : Nat) (hj : es[j]? = some (key, v0))
    (k : lsetK L i (mapH b d (es.set j (key, v))) (K undef)) : Sm P (do Instr.mapUpdate t (.map (some b)) key v; pure undef) L K := by
  subst hd
  rw [lsetK_eq] at k
  refine ⟨fun w s => ?_⟩
  obtain ⟨xs, n, hb, h1, h2, h3⟩ := s.map i hi
  have hm := und_map (hτ _ _ ht) htd
  have hkd := und_key (hτ _ _ hk) hkey
  have hj' : (xs.toList.map (fun e => (e.key, e.val)))[j]? = some (key, v0) := by rw [h1]; exact hj
  rw [List.getElem?_map] at hj'
  obtain ⟨e, he, hev⟩ := Option.map_eq_some_iff.1 hj'
  simp only [Prod.mk.injEq] at hev
  rcases findNow_spec hkey xs.toList 0 h3 with ⟨_, g2⟩ | ⟨j', e', g1, g2, g3⟩
  · exact (g2 e (List.mem_of_getElem? he) hev.1).elim
  · have hjj := at_uniq h2 he g2 (hev.1.trans g3.symm)
    subst hjj
    rw [he] at g2
    cases g2
    have hjx : xs[j]? = some e := by simpa using he
    have hkk : ∀ e', xs[j]? = some e' → ({ e' with key := key, val := v } : MapEntry).key = e'.key := fun e' he' => by rw [hjx] at he'; cases he'; exact hev.1.symm
    refine ⟨_, _, _, by simp [Instr.mapUpdate, run_underlying hm, MapKept.run_getObj_map hb, MapKept.run_checkKey hkd hkey, MapKept.run_findKey hkd g1, hjx, hev.1, MapKept.run_keyThatStays hkey, MapKept.run_setObj_map _ hb, Result.andThen]; rfl, ?_, k⟩
    refine s.mapTurn i hi (heap_set hb).1 (fun c hc => (heap_set hb).2 c hc) rfl ?_ (stamped_modify h2 _ _ (fun _ _ => rfl) (fun e' _ he' => hkk e' he')) (isKey_modify h3 _ _ hkk)
    rw [← h1]
    refine List.ext_getElem? fun q => ?_
    simp only [List.getElem?_map, Array.getElem?_toList, Array.getElem?_modify, List.getElem?_set, List.length_map, Array.length_toList]
    by_cases hq : j = q
    · subst hq
      have hlt : j < xs.size := (Array.getElem?_eq_some_iff.1 hjx).1
      simp [hjx, hlt]
    · simp [hq]
end Go.Eng
