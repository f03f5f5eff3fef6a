/- The ordered sort of numbers, of the kit's shelf, over assertions. -/
import Derived.Test.YtaacolkdlmfifaaGreatEngMore
import Derived.Test.YtaacolkdlmfifaaGreatSortLay
import Derived.Test.YtaacolkdlmfifaaGreatTys
set_option linter.all false
namespace Go.Eng
open Go.Sort Go.RowKit
theorem Sat.grow {w w' : World} {L : List HP} (s : Sat w L) (he : ∀ b, b < w.heap.size → w'.heap[b]? = w.heap[b]?) (ho : World.out w' = World.out w) : Sat w' L := by
  obtain ⟨h, hp, o⟩ := s
  exact ⟨h, by rw [ho]; exact hp, o.congr fun p hm => he _ (o.lt hm)⟩
theorem flat_int (xs : List Int) : intE.flat xs = xs.map (Value.int .i64) := by
  induction xs with
  | nil => rfl
  | cons x xs ih => rw [intE.flat_cons, ih]; rfl
theorem putRow_at {w : World} {b : Nat} {t : TypeId} {xs ys : List Int} {rest : List Value} (hb : w.heap[b]? = some (.cells (intE.flat xs ++ rest).toArray t (0, 0))) (hl : ys.length = xs.length) :
    (putRow (Value.int .i64) w b 0 ys.toArray).heap[b]? = some (.cells (intE.flat ys ++ rest).toArray t (0, 0)) := by
  have e : putCells (Value.int .i64) 0 ys.toArray (intE.flat xs ++ rest).toArray = (intE.flat ys ++ rest).toArray := by
    rw [flat_int, flat_int]
    apply Array.ext_getElem?
    intro k
    simp only [putCells, Array.getElem?_mapIdx, List.getElem?_toArray, List.getElem?_append, List.length_map, hl, List.getElem?_map, List.size_toArray]
    by_cases hk : k < xs.length
    · have hk' : k < ys.length := by omega
      simp [hk, hk']
    · simp [hk]
  simp only [putRow, mapBlock, Array.getElem?_modify, if_true, hb, Option.map_some, onCells, e]
theorem putRow_off {w : World} {b c : Nat} {ys : List Int} (h : c ≠ b) : (putRow (Value.int .i64) w b 0 ys.toArray).heap[c]? = w.heap[c]? := by
  simp only [putRow, mapBlock, Array.getElem?_modify]
  rw [if_neg (fun e => h e.symm)]
/-- sorted numbers -/
def sortI (xs : List Int) : List Int := xs.mergeSort fun x y => decide (x ≤ y)
theorem sortI_len (xs : List Int) : (sortI xs).length = xs.length := List.length_mergeSort xs
end Go.Eng
namespace Go.Proofs
open Go.Eng Go.Sort Go.RowKit
theorem Tryz.sortInts (a : Option Addr) (c : Nat) (xs : List Int) (L : List HP) (hl : xs.length ≤ 1000000000) :
    Con Tryz.prog 31 [.slice a xs.length c] (own intE 3 a c xs :: L) (Is (.tuple #[]) (own intE 3 a c (sortI xs) :: L)) := by
  refine ⟨⟨_, Tryz.func31, by kernel_rfl, by kernel_rfl⟩, fun w s => ?_⟩
  have ho := s.own 0 rfl
  obtain ⟨hc, had, h⟩ := ho
  rcases h with ⟨rfl, rfl, rfl⟩ | ⟨b, rest, rfl, hb, hlen⟩
  · refine (Tryz.slices_Sort_int_none none 0 w).mono fun e w' h => ?_
    obtain ⟨rfl, rfl⟩ := h
    exact ⟨_, s, rfl, Ent.of_eq (by rw [show sortI [] = [] from by simp [sortI]])⟩
  · have hlt : b < w.heap.size := (Array.getElem?_eq_some_iff.1 hb).1
    have hH : Holds (Value.int .i64) w b 0 xs.toArray := by
      intro j hj
      have hj : j < xs.length := by simpa using hj
      refine ⟨cell_of hb ?_, by simp [World.frozen?, hb]⟩
      rw [flat_int]
      simp [List.getElem?_append, hj]
    refine (Tryz.slices_Sort_int b 0 c xs w hH hlt (by omega)).mono fun e w' h => ?_
    obtain ⟨rfl, n, os, rfl⟩ := h
    have s1 : Sat (putRow (Value.int .i64) (Sort.ahead w n) b 0 (sortI xs).toArray) (own intE 3 (some ⟨b, 0, none⟩) c (sortI xs) :: L) := by
      rcases own_open s 0 rfl with ⟨h0, _, _⟩ | ⟨b', rest', e, hl', _, s0⟩
      · cases h0
      · cases e
        have hb' := s0.pto 0 rfl
        have s2 := s0.turn (w' := putRow (Value.int .i64) (Sort.ahead w n) b 0 (sortI xs).toArray) 0 rfl (putRow_at (w := Sort.ahead w n) hb' (sortI_len xs)) (fun c hc => putRow_off (w := Sort.ahead w n) hc) rfl
        exact sat_set_own 0 rfl ⟨rest', rfl, by rw [sortI_len]; exact hl'⟩ hc s2
    exact ⟨_, s1.grow (fun k hk => heap_grow_old _ os hk) rfl, rfl, Ent.rfl⟩
end Go.Proofs
