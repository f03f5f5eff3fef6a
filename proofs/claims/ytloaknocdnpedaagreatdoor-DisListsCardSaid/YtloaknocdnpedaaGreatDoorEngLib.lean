/- The kit's contracts of library functions, over assertions; strings put to rows of bytes; rows of bytes that become strings. -/
import Derived.Test.YtloaknocdnpedaaGreatDoorEngMap
import Derived.Lib.AppendStr
import Derived.Lib.UnsafeStr
import Derived.Deep.Draws
import Derived.Sort.Grow
set_option linter.all false
namespace Go.Eng
open Go.ChangeShapes Go.RowKit Go.Lib Go.Sort
set_option linter.unusedVariables false
variable {P : Program} {τ : Tys} {L M : List HP} {a : Option Addr} {xs : List UInt8}
theorem Sat.keep {w w' : World} {L : List HP} (s : Sat w L) (he : ∀ b, b < w.heap.size → w'.heap[b]? = w.heap[b]?) (ho : World.out w' = World.out w) : Sat w' L := by
  obtain ⟨h, hp, o⟩ := s
  exact ⟨h, by rw [ho]; exact hp, o.congr fun p hm => he _ (o.lt hm)⟩
theorem Sat.below {w w' : World} (s : Sat w L) (h : Below w.heap.size w w') : Sat w' L := s.keep h.block (by simp only [World.out, h.os, h.output])
theorem below_drewN (w : World) (n : Nat) : Below w.heap.size w (w.drewN n) := ⟨rfl, rfl, rfl, Nat.le_refl _, fun _ _ => rfl⟩
theorem below_grow (w : World) (k : Nat) (os : Array Obj) : Below w.heap.size w (grow (w.drewN k) os) :=
  ⟨rfl, rfl, rfl, by simp [grow, World.drewN], fun b hb => by
    simp only [grow, World.drewN]
    rw [Array.getElem?_append, if_pos hb]⟩
/-- a function of the library that answers, and lays new blocks at most -/
theorem Con.lib {f : FuncId} {args : List Value} {v : Value} (hent : ∃ fn, P.funcs[f]? = some fn ∧ (fn.name == "runtime.NumGoroutine") = false ∧ fn.body.isNone = false)
    (h : ∀ w, Sat w L → Calls P f args.toArray w fun e w' => e = .returned v ∧ Below w.heap.size w w') : Con P f args L (Is v L) :=
  ⟨hent, fun w s => (h w s).mono fun e w' => by
    rintro ⟨rfl, hb⟩
    exact ⟨L, s.below hb, rfl, Ent.rfl⟩⟩
/-- one that answers with a new row -/
theorem Con.row {α : Type} {E : Enc α} {ys : List α} {f : FuncId} {args : List Value} {t : TypeId} {n : Nat} (hent : ∃ fn, P.funcs[f]? = some fn ∧ (fn.name == "runtime.NumGoroutine") = false ∧ fn.body.isNone = false)
    (hn : n = ys.length) (hl : ys.length ≤ 4294967296)
    (h : ∀ w, Sat w L → Calls P f args.toArray w fun e w' => e = .returned (.slice (some ⟨w.heap.size, 0, none⟩) n n) ∧ w' = w.alloc (.cells (E.flat ys).toArray t)) : Con P f args L (New E t ys L) :=
  ⟨hent, fun w s => (h w s).mono fun e w' => by
    rintro ⟨rfl, rfl⟩
    subst hn
    refine ⟨own E t (some ⟨w.heap.size, 0, none⟩) ys.length ys :: L, ?_, New.of rfl (Nat.le_refl _) (fun _ => rfl) Ent.rfl⟩
    exact sat_new s (by show ys.length ≤ 9223372036854775807; omega) [] (by simp) w rfl rfl (by simp)⟩
theorem strCells_flat (s : ByteArray) : strCells s = u8E.flat s.data.toList := by rw [flat_u8]; rfl
/-- a string's bytes, put to a row of one's own -/
theorem Sm.appStr (hτ : TysOk P τ) {st ut et ty : TypeId} {si ui ei : TyI} {n c : Nat} {s : ByteArray} {K : Value → List HP → Prop}
    (hL : Ent L (own u8E et a c xs :: M)) (hs : τ[st]? = some (some si)) (hsd : si.d = .slice et) (hu : τ[ut]? = some (some ui)) (hud : ui.d = .string) (he : τ[et]? = some (some ei)) (hz : ei.size = 1)
    (hn : n = xs.length) (hby : ei.bytes = 1) (hmax : xs.length + s.size ≤ 140737488355328)
    (k : ∀ a2 c2, (xs ++ s.data.toList).length ≤ c2 → Ad a2 (xs ++ s.data.toList).length → K (.slice a2 (xs ++ s.data.toList).length c2) (own u8E et a2 c2 (xs ++ s.data.toList) :: M)) :
    Sm P (Builtin.append_ #[st, ut] ty #[.slice a n c, .string s]) L K := by
  subst hn
  refine ⟨fun w s0 => ?_⟩
  have s1 := hL w s0
  have hst := und_of (hτ _ _ hs) hsd
  have hut := und_string (hτ _ _ hu) hud
  obtain ⟨inf, hi, hsize, hbyt, hzero⟩ := (hτ _ _ he).info
  have hzl : ei.zero.cells.size = ei.size := (hτ _ _ he).zl
  have hmx : maxLen = 9223372036854775807 := rfl
  have hsl : s.data.toList.length = s.size := size_list s
  have hfl : ∀ zs : List UInt8, (u8E.flat zs).length = zs.length := fun zs => by rw [u8E.flat_len]; exact Nat.mul_one _
  by_cases hy : s.size = 0
  · have hnil : s.data.toList = [] := List.eq_nil_of_length_eq_zero (by rw [hsl]; exact hy)
    have hcap : xs.length ≤ c := by
      obtain ⟨_, _, h⟩ := s1.own 0 rfl
      rcases h with ⟨_, _, rfl⟩ | ⟨b, sp, _, _, hl⟩
      · simp
      · have : xs.length * u8E.sz ≤ c * u8E.sz := by omega
        exact Nat.le_of_mul_le_mul_right this u8E.pos
    have hf := run_firstCells_string (P := P) w inf.size s
    have hsc : strCells s = [] := by rw [strCells_flat, hnil]; rfl
    rw [hy, hsc] at hf
    refine ⟨.slice a xs.length c, w, _, ?_, s1, ?_⟩
    · cases a <;> simp [Builtin.append_, run_underlying hst, run_underlying hut, sizeOf, typeInfo, hi, Builtin.lenOf, hy, hf, storeCells, hcap]
    · have := k a c
      rw [hnil, List.append_nil] at this
      obtain ⟨_, had, _⟩ := s1.own 0 rfl
      exact this hcap had
  · obtain ⟨v', w', hrun, hown⟩ : ∃ v' w', (Builtin.append_ #[st, ut] ty #[.slice a xs.length c, .string s]).run P w = .ok v' w' ∧
        (∃ a2 c2, v' = .slice a2 (xs ++ s.data.toList).length c2 ∧ (xs ++ s.data.toList).length ≤ c2 ∧ Ad a2 (xs ++ s.data.toList).length ∧ Sat w' (own u8E et a2 c2 (xs ++ s.data.toList) :: M)) := by
      have grow : ∀ (old : Nat), old < xs.length + s.size → (∃ w', w' = w.drew.alloc (.cells (u8E.flat (xs ++ s.data.toList) ++ (Builtin.zeroCells ei.zero.cells (grownCap w (xs.length + s.size) old et - (xs.length + s.size))).toList).toArray et) ∧
          Sat w' (own u8E et (some ⟨w.heap.size, 0, none⟩) (grownCap w (xs.length + s.size) old et) (xs ++ s.data.toList) :: M)) := by
        intro old ho
        have hge := grownCap_ge w (xs.length + s.size) old et
        have hcm : grownCap w (xs.length + s.size) old et ≤ maxLen := grownCap_le_maxLen w (xs.length + s.size) old et (by omega)
        refine ⟨_, rfl, sat_new s1.tail hcm _ ?_ w.drew rfl rfl rfl⟩
        have hzc : (Builtin.zeroCells ei.zero.cells (grownCap w (xs.length + s.size) old et - (xs.length + s.size))).toList.length = (grownCap w (xs.length + s.size) old et - (xs.length + s.size)) * u8E.sz := by
          rw [Array.length_toList, size_zeroCells, hzl, hz]; rfl
        rw [hzc, List.length_append, hsl, ← Nat.add_mul]
        congr 1; omega
      have hl2 : (xs ++ s.data.toList).length = xs.length + s.size := by rw [List.length_append, hsl]
      rcases own_open s1 0 rfl with ⟨rfl, rfl, rfl⟩ | ⟨b, sp, rfl, hl, hcm, s2⟩
      · have hrr := run_append_nil_string (P := P) w st ut ty et inf ei.zero hst hut hi hzero s (by omega) (by omega) (by rw [hbyt, hby]; simp at hmax; omega)
        obtain ⟨w', hw, sw⟩ := grow 0 (by simp; omega)
        simp only [List.length_nil, Nat.zero_add, List.nil_append] at hw sw ⊢
        refine ⟨.slice (some ⟨w.heap.size, 0, none⟩) s.data.toList.length (grownCap w s.size 0 et), w', by rw [hrr, hw, hsl]; congr 3; apply Array.ext'; simp [flat_u8], ⟨_, _, rfl, by rw [hsl]; exact grownCap_ge w _ _ et, fun _ => rfl, sw⟩⟩
      · have hl' : xs.length + sp.length = c := by
          have h2 : xs.length * 1 + sp.length = c * 1 := hl
          omega
        by_cases hroom : xs.length + s.size ≤ c
        · have hg := s2.pto 0 rfl
          have hrr := run_append_room_string (P := P) (w := w) st ut ty et inf hst hut hi (by rw [hsize, hz]) b xs.length c _ hg s hroom (by rw [List.size_toArray, List.length_append, hfl]; omega)
          refine ⟨_, _, hrr, ⟨_, _, by rw [hl2], by rw [hl2]; exact hroom, fun _ => rfl, ?_⟩⟩
          have s3 := s2.turn 0 (b := b) (o' := .cells ((u8E.flat xs ++ sp).toArray.toList.take xs.length ++ strCells s ++ (u8E.flat xs ++ sp).toArray.toList.drop (xs.length + s.size)).toArray et (0, 0)) rfl
            (setRow_heap w b _ _ et _ hg) (fun c hc => setRow_other w b c _ hc) rfl
          have e1 : ((u8E.flat xs ++ sp).toArray.toList.take xs.length ++ strCells s ++ (u8E.flat xs ++ sp).toArray.toList.drop (xs.length + s.size)) = u8E.flat (xs ++ s.data.toList) ++ sp.drop s.size := by
            rw [strCells_flat, u8E.flat_append]
            simp only [List.take_append, List.drop_append, hfl]
            rw [List.take_of_length_le (by rw [hfl]; exact Nat.le_refl _), Nat.sub_self, List.take_zero, List.append_nil, List.drop_of_length_le (by rw [hfl]; omega), List.nil_append, show xs.length + s.size - xs.length = s.size from by omega]
          rw [e1] at s3
          have s4 : Sat (w.setRow b (u8E.flat (xs ++ s.data.toList) ++ sp.drop s.size).toArray) (Eng.ptc b et (u8E.flat (xs ++ s.data.toList) ++ sp.drop s.size) :: M) := s3
          rw [e1]
          refine sat_set_own (c := c) 0 rfl ⟨_, rfl, ?_⟩ hcm s4
          show (xs ++ s.data.toList).length * 1 + _ = c * 1
          rw [hl2, List.length_drop]
          omega
        · have hro := Rd.own (E := u8E) (xs := xs) (a := some ⟨b, 0, none⟩) (L := own u8E et (some ⟨b, 0, none⟩) c xs :: M) 0 rfl (fun _ => rfl)
          have hrr := run_append_grow_string (P := P) (w := w) st ut ty et inf ei.zero hst hut hi hzero ⟨b, 0, none⟩ xs.length c (u8E.flat xs) (by rw [hfl, hsize, hz, Nat.mul_one])
            (fun j v hv => by rw [add_of]; exact hro.at_ w s1 j v hv) s (by omega) (by omega) (growslice_fits (by omega) (by rw [hbyt, hby]; omega))
          obtain ⟨w', hw, sw⟩ := grow c (by omega)
          refine ⟨.slice (some ⟨w.heap.size, 0, none⟩) (xs ++ s.data.toList).length (grownCap w (xs.length + s.size) c et), w', by rw [hrr, hw, hl2]; congr 3; apply Array.ext'; simp [strCells_flat, u8E.flat_append], ⟨_, _, rfl, by rw [hl2]; exact grownCap_ge w _ _ et, fun _ => rfl, sw⟩⟩
    obtain ⟨a2, c2, rfl, h1, h2, h3⟩ := hown
    exact ⟨_, w', _, hrun, h3, k a2 c2 h1 h2⟩
theorem Sm.appStrAt (hτ : TysOk P τ) {st ut et ty : TypeId} {si ui ei : TyI} {n c : Nat} {s : ByteArray} {K : Value → List HP → Prop} (i : Nat) (hi : L[i]? = some (own u8E et a c xs))
    (hs : τ[st]? = some (some si)) (hsd : si.d = .slice et) (hu : τ[ut]? = some (some ui)) (hud : ui.d = .string) (he : τ[et]? = some (some ei)) (hz : ei.size = 1)
    (hn : n = xs.length) (hby : ei.bytes = 1) (hmax : xs.length + s.size ≤ 140737488355328)
    (k : ∀ a2 c2, (xs ++ s.data.toList).length ≤ c2 → Ad a2 (xs ++ s.data.toList).length → ldelK L i fun M => K (.slice a2 (xs ++ s.data.toList).length c2) (own u8E et a2 c2 (xs ++ s.data.toList) :: M)) :
    Sm P (Builtin.append_ #[st, ut] ty #[.slice a n c, .string s]) L K := by
  refine Sm.appStr (M := L.eraseIdx i) hτ (fun w s => s.perm (perm_at L i hi)) hs hsd hu hud he hz hn hby hmax (fun a2 c2 h1 h2 => ?_)
  have := k a2 c2 h1 h2
  rwa [ldelK_eq] at this
/-- where a row begins -/
theorem Sm.usd (hτ : TysOk P τ) {st pt et : TypeId} {pi : TyI} {n c : Nat} {K : Value → List HP → Prop} (i : Nat) (hi : L[i]? = some (own u8E et a c xs)) (hn : n = xs.length)
    (hp : τ[pt]? = some (some pi)) (hpd : pi.d = .pointer et) (k : ∀ q : Option Addr, (xs ≠ [] → q = a) → K (.pointer q) L) :
    Sm P (Builtin.unsafeSliceData_ #[st] pt #[.slice a n c]) L K := by
  subst hn
  refine ⟨fun w s => ?_⟩
  rcases own_open s i hi with ⟨rfl, rfl, rfl⟩ | ⟨b, sp, rfl, hl, hcm, s2⟩
  · exact ⟨_, w, L, run_unsafeSliceData_nil (w := w) _ _ _ _, s, k none (fun h => absurd rfl h)⟩
  · have hl' : xs.length + sp.length = c := by
      have h2 : xs.length * 1 + sp.length = c * 1 := hl
      omega
    by_cases hc : c = 0
    · have hx : xs = [] := List.eq_nil_of_length_eq_zero (by omega)
      subst hx hc
      have hlt := (List.getElem?_eq_some_iff.1 hi).1
      have hb := s2.pto i (List.getElem?_set_self hlt)
      have hu : P.underlying pt = some (.pointer et) := by
        obtain ⟨D, hD, hbD, _⟩ := (hτ _ _ hp).und
        rw [hD]
        rw [hpd] at hbD
        cases D <;> simp [bare] at hbD
        · rw [hbD]
      have hsh : w.shape? b = some (et, (u8E.flat ([] : List UInt8) ++ sp).toArray.size) := by simp [World.shape?, hb]
      refine ⟨_, _, L, run_unsafeSliceData_zero (P := P) (w := w) _ _ _ hu _ _ _ hsh, ?_, k _ (fun h => absurd rfl h)⟩
      exact (s.alloc _).tail
    · exact ⟨_, w, L, run_unsafeSliceData_row (w := w) _ _ _ _ _ hc, s, k _ (fun _ => rfl)⟩
theorem freeze_other (w : World) (b c n : Nat) (h : c ≠ b) : (w.freeze ⟨b, 0, none⟩ n).heap[c]? = w.heap[c]? := by
  unfold World.freeze
  split
  · rfl
  · simp only [Array.getElem?_modify]
    rw [if_neg (fun e => h e.symm)]
/-- a row becomes a string -/
theorem Sm.ustr (hτ : TysOk P τ) {pt it st et : TypeId} {pi : TyI} {n c : Nat} {q : Option Addr} {K : Value → List HP → Prop} (i : Nat) (hi : L[i]? = some (own u8E et a c xs)) (hq : xs ≠ [] → q = a) (hn : n = xs.length)
    (hp : τ[pt]? = some (some pi)) (hpd : pi.d = .pointer et) (hce : P.cellsOf et = 1) (k : ldelK L i fun M => K (.string ⟨xs.toArray⟩) M) :
    Sm P (Builtin.unsafeString_ #[pt, it] st #[.pointer q, .int .i64 n]) L K := by
  subst hn
  rw [ldelK_eq] at k
  refine ⟨fun w s => ?_⟩
  by_cases hx : xs = []
  · subst hx
    exact ⟨_, w, _, run_unsafeString_none (w := w) _ _ _ _, s.sub (List.eraseIdx_sublist _ _), k⟩
  · have hxl : xs.length ≠ 0 := fun h => hx (List.eq_nil_of_length_eq_zero h)
    have hqa := hq hx
    subst hqa
    have s1 := s.perm (perm_at L i hi)
    rcases own_open s1 0 rfl with ⟨_, _, h⟩ | ⟨b, sp, rfl, hl, hcm, s2⟩
    · exact absurd h hx
    · have hl' : xs.length + sp.length = c := by
        have h2 : xs.length * 1 + sp.length = c * 1 := hl
        omega
      have hb := s2.pto 0 rfl
      have hu : P.underlying pt = some (.pointer et) := by
        obtain ⟨D, hD, hbD, _⟩ := (hτ _ _ hp).und
        rw [hD]
        rw [hpd] at hbD
        cases D <;> simp [bare] at hbD
        · rw [hbD]
      have hfl : (u8E.flat xs).length = xs.length := by rw [u8E.flat_len]; exact Nat.mul_one _
      have hsh : w.shape? b = some (et, (u8E.flat xs ++ sp).toArray.size) := by simp [World.shape?, hb]
      have hmx : maxLen = 9223372036854775807 := rfl
      have hro := Rd.own (E := u8E) (xs := xs) (a := some ⟨b, 0, none⟩) (L := own u8E et (some ⟨b, 0, none⟩) c xs :: L.eraseIdx i) 0 rfl (fun _ => rfl)
      have hrun := run_unsafeString_row (P := P) (w := w) pt it st et hu hce b _ hsh xs hx (by rw [List.size_toArray, List.length_append, hfl]; omega) (by omega) (fun j x hj => by
        rw [add_of]
        refine hro.at_ w s1 j _ ?_
        rw [flat_u8, List.getElem?_map, hj]
        rfl)
      obtain ⟨o', ho'⟩ : ∃ o', (w.freeze ⟨b, 0, none⟩ xs.length).heap[b]? = some o' := by
        have hlt : b < w.heap.size := (Array.getElem?_eq_some_iff.1 hb).1
        unfold World.freeze
        split
        · exact ⟨_, hb⟩
        · simp only [Array.getElem?_modify, if_true, hb, Option.map_some]
          exact ⟨_, rfl⟩
      have s3 := s2.turn 0 (w' := w.freeze ⟨b, 0, none⟩ xs.length) (o' := o') rfl ho' (fun c hc => freeze_other w b c _ hc) (by unfold World.freeze; split <;> rfl)
      exact ⟨_, _, _, hrun, s3.tail, k⟩
end Go.Eng
