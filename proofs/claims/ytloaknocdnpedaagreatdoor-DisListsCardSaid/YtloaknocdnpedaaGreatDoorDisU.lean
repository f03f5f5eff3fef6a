/- A program's targets, rising: contracts. -/
import Derived.Test.YtloaknocdnpedaaGreatDoorDisQ
import Derived.Test.YtloaknocdnpedaaGreatDoorSortLay
set_option linter.all false
namespace Go.Eng
open Go.RowKit Go.MapKept
variable {P : Program} {L : List HP}
/-- one that answers with a row of its own, which lies behind what was -/
theorem Con.ownRow {α : Type} {E : Enc α} {ys : List α} {f : FuncId} {args : List Value} {t : TypeId} (hent : ∃ fn, P.funcs[f]? = some fn ∧ (fn.name == "runtime.NumGoroutine") = false ∧ fn.body.isNone = false)
    (h : ∀ w, Sat w L → Calls P f args.toArray w fun e w' => ∃ v, e = .returned v ∧ w'.ownsRow w.heap.size t E.sz v ys.length (E.flat ys) ∧ Below w.heap.size w w') : Con P f args L (New E t ys L) :=
  ⟨hent, fun w s => (h w s).mono fun e w' => by
    rintro ⟨v, rfl, hr, hb⟩
    have hout : World.out w' = World.out w := by simp only [World.out, hb.os, hb.output]
    rcases hr.2 with ⟨rfl, hz⟩ | ⟨g, cap, cur, rfl, hg, hc, h1, h2, h3, h4⟩
    · have hy : ys = [] := List.eq_nil_of_length_eq_zero hz
      subst hy
      exact ⟨L, s.below hb, New.nil Ent.rfl⟩
    · refine ⟨own E t (some ⟨g, 0, none⟩) cap ys :: L, ?_, New.of rfl h1 (fun _ => rfl) Ent.rfl⟩
      obtain ⟨c, hp, o⟩ := s
      have hlen : (E.flat ys).length = ys.length * E.sz := hr.1
      have hcur : (E.flat ys ++ cur.toList.drop (ys.length * E.sz)).toArray = cur := by
        rw [← h4, List.take_append_drop]
      have hle : ys.length * E.sz ≤ cur.size := by rw [h3]; exact Nat.mul_le_mul_right _ h1
      refine ⟨[(g, .cells cur t (0, 0))] ++ c, ⟨_, c, rfl, ⟨h2, fun _ => rfl, .inr ⟨g, cur.toList.drop (ys.length * E.sz), rfl, by rw [hcur], ?_⟩⟩, by rw [hout]; exact hp⟩, ⟨?_, fun p hm => ?_⟩⟩
      · have hsz : cur.toList.length = cur.size := Array.length_toList
        rw [List.length_drop, hsz, ← h3]
        omega
      · show (g :: c.map (·.1)).Nodup
        refine List.nodup_cons.2 ⟨fun hm => ?_, o.nd⟩
        obtain ⟨p, hp1, hp2⟩ := List.mem_map.1 hm
        have := o.lt hp1
        omega
      · rcases List.mem_append.1 hm with hm | hm
        · rw [List.mem_singleton.1 hm]; exact hc
        · exact (hb.block _ (o.lt hm)).trans (o.on p hm)⟩
theorem flat_num (xs : List Int) : intE.flat xs = xs.map (Value.int .i64) := by
  induction xs with
  | nil => rfl
  | cons x xs ih => rw [intE.flat_cons, ih]; rfl
end Go.Eng
namespace Go.Proofs
open Go.Eng Go.RowKit Go.MapKept Go.WideElems Go.ChangeShapes
open Classical
set_option linter.unusedVariables false
set_option maxRecDepth 100000
set_option maxHeartbeats 4000000
abbrev rNil : Value → Option (DataW Unit × List MemPlace) := fun _ => some (.nil, [])
def sortK (xs : List Int) : List Int := xs.mergeSort fun x y => decide (x ≤ y)
theorem Tryz.mapKeys {w : World} {L : List HP} {b : Nat} {m : List (Int × Int)} (s : Sat w L) (i : Nat) (hi : L[i]? = some (mapH b (.int .i64) (tbV m))) (hm : ∀ q ∈ m, 0 ≤ q.1 ∧ q.1 ≤ 1000000) (hl : m.length ≤ 1000000) :
    ∃ D0 : DataW Unit, w.ownsMap Tryz.prog 3 rNil b m.length D0 ∧ (intKeys D0).Perm (m.map (·.1)) ∧ Maps.size D0 = m.length := by
  obtain ⟨xs, n, hb, hxs, hst, hk⟩ := s.map i hi
  have hlen : xs.size = m.length := by
    have := congrArg List.length hxs
    rw [List.length_map, Array.length_toList] at this
    rw [this]
    exact List.length_map _
  have hu : Tryz.prog.underlying 3 = some (.int .i64) := Tryz.underlying3
  have hkey : ∀ x ∈ xs.toList, ∃ a : Int, x.key = .int .i64 a ∧ keyOf Tryz.prog 3 x.key = some (.int .i64 a) := fun x hx => by
    have h1 : (x.key, x.val) ∈ tbV m := by rw [← hxs]; exact List.mem_map.2 ⟨x, hx, rfl⟩
    obtain ⟨q, hq, he⟩ := List.mem_map.1 h1
    have h2 : x.key = .int .i64 q.1 := (Prod.mk.inj he).1.symm
    have h3 := hm q hq
    refine ⟨q.1, h2, ?_⟩
    rw [h2]
    have hw : (Lit.int .i64 q.1).wf = true := by
      have e1 : IntKind.i64.min = -9223372036854775808 := rfl
      have e2 : IntKind.i64.max = 9223372036854775807 := rfl
      show (decide (IntKind.i64.min ≤ q.1) && decide (q.1 ≤ IntKind.i64.max)) = true
      rw [e1, e2]
      exact Bool.and_eq_true_iff.2 ⟨decide_eq_true (by omega), decide_eq_true (by omega)⟩
    simp [keyOf, hu, mapKey, hw]
  have hrg : ∀ x ∈ xs.toList, x.key = .int .i64 (Go.intOf (rg Tryz.prog 3 rNil x).1) := fun x hx => by
    obtain ⟨a, h1, h2⟩ := hkey x hx
    have : WideElems.rd Tryz.prog 3 rNil x = some (.int .i64 a, .nil) := by simp [WideElems.rd, h2]
    rw [rg_of this]
    exact h1
  have F : Fit Tryz.prog 3 rNil xs n := ⟨by rw [hlen]; have : maxLen = 9223372036854775807 := rfl; omega, hst, fun x hx => by
    obtain ⟨a, h1, h2⟩ := hkey x hx
    exact ⟨(.int .i64 a, .nil), by simp [WideElems.rd, h2]⟩⟩
  refine ⟨.map ((xs.toList.map (rg Tryz.prog 3 rNil)).foldr DataW.insert []), ⟨xs, n, hb, F, by rw [hlen]; exact Nat.le_refl _, rfl⟩, ?_, ?_⟩
  · have h1 : (((xs.toList.map (rg Tryz.prog 3 rNil)).foldr DataW.insert []).map fun p => Go.intOf p.1).Perm ((xs.toList.map (rg Tryz.prog 3 rNil)).map fun p => Go.intOf p.1) := (WideShapes.sorted_perm _).map _
    have h2 : (xs.toList.map (rg Tryz.prog 3 rNil)).map (fun p => Go.intOf p.1) = m.map (·.1) := by
      have h3 : ((xs.toList.map (rg Tryz.prog 3 rNil)).map fun p => Go.intOf p.1).map (Value.int .i64) = (m.map (·.1)).map (Value.int .i64) := by
        rw [List.map_map, List.map_map, List.map_map]
        have h4 : xs.toList.map (fun e => e.key) = m.map (fun p => Value.int .i64 p.1) := by
          have := congrArg (List.map Prod.fst) hxs
          rw [List.map_map] at this
          unfold tbV at this
          rw [List.map_map] at this
          exact this
        have h5 : xs.toList.map ((Value.int .i64 ∘ fun p => Go.intOf p.1) ∘ rg Tryz.prog 3 rNil) = xs.toList.map (fun e => e.key) := List.map_congr_left fun x hx => (hrg x hx).symm
        rw [h5, h4]
        rfl
      exact (List.map_inj_right (fun x y h => (Value.int.inj h).2)).1 h3
    rw [← h2]
    exact h1
  · show (((xs.toList.map (rg Tryz.prog 3 rNil)).foldr DataW.insert []).length) = _
    rw [Go.length_sorted, List.length_map, Array.length_toList, hlen]
theorem Tryz.sortedKeys (b bm : Nat) (m : List (Int × Int)) (L : List HP) (hm : ∀ q ∈ m, 0 ≤ q.1 ∧ q.1 ≤ 1000000) (hl : m.length ≤ 1000000) :
    Con Tryz.prog 20 [.func (.func 41) #[] #[.pointer (some ⟨bm, 0, none⟩)]] (ptc bm 38 [.map (some b)] :: mapH b (.int .i64) (tbV m) :: L) (New intE 3 (sortK (m.map (·.1))) (ptc bm 38 [.map (some b)] :: mapH b (.int .i64) (tbV m) :: L)) := by
  refine Con.ownRow ⟨_, Tryz.func20, by kernel_rfl, by kernel_rfl⟩ fun w s => ?_
  obtain ⟨D0, h1, h2, h3⟩ := Tryz.mapKeys s 1 rfl hm hl
  have hb := s.pto 0 rfl
  have hlt : bm < w.heap.size := (Array.getElem?_eq_some_iff.1 hb).1
  refine (Tryz.slices_Sorted_keys b m.length bm D0 rNil w hlt (cell_of hb rfl) h1 (by rw [h3]; have : maxLen = 9223372036854775807 := rfl; omega) (by rw [h3]; omega)).mono fun e w' => ?_
  rintro ⟨v, ss, rfl, hp, hr, _, hbl⟩
  have e1 : ss.mergeSort (fun x y => decide (x ≤ y)) = sortK (m.map (·.1)) := mergeSort_of_perm_i (hp.trans h2)
  have e2 : ss.length = (sortK (m.map (·.1))).length := by rw [← e1, List.length_mergeSort]
  refine ⟨v, rfl, ?_, hbl⟩
  rw [e1, e2] at hr
  rw [flat_num]
  exact hr
theorem Tryz.mapsKeys (b : Nat) (L : List HP) : Con Tryz.prog 21 [.map (some b)] L (Exs (fun bm : Nat => .func (.func 41) #[] #[.pointer (some ⟨bm, 0, none⟩)]) (fun bm => ptc bm 38 [.map (some b)] :: L) (fun _ => True)) := by
  refine con_of Tryz.tysOk Tryz.func21 rfl rfl ?_
  conv => whnf
  repeat' ((with_reducible refine Nc.go' (fun _ => ?_)); conv => whnf)
  all_goals exact Exs.of _ Ent.rfl trivial rfl
theorem Tryz.disTargetsS (s : ByteArray) (L : List HP) (hs : s.size ≤ 60000) : Con Tryz.prog 7 [.string s] L (New intE 3 (sortK (tkF (bgP (cutF s 0) s.size) [] (cutF s 0))) L) := by
  have hch := cut_chn s s.size 0 (by omega)
  have hcu := fun L => Tryz.disCut s L (by omega)
  have hll : (cutF s 0).length ≤ s.size := by
    have key : ∀ (l : List Pc) (k : Nat), chn s.size k l → k + l.length ≤ s.size := by
      intro l
      induction l with
      | nil => intro k h; exact chn_le h
      | cons p l ih =>
        intro k h
        have := ih _ h.2.2
        have := pcZ'_pos p
        rw [List.length_cons]
        omega
    have := key _ 0 hch
    omega
  have htl : (tkF (bgP (cutF s 0) s.size) [] (cutF s 0)).length ≤ 0 + (cutF s 0).length := by
    have key : ∀ (B : Int → Prop) (l : List Pc) (ks : List Int), (tkF B ks l).length ≤ ks.length + l.length := by
      intro B l
      induction l with
      | nil => intro ks; exact Nat.le_refl _
      | cons p l ih =>
        intro ks
        rw [tkF, List.length_cons]
        split
        · split
          · have := ih ks; omega
          · have := ih (ks ++ [p.n])
            rw [List.length_append] at this
            simp only [List.length_cons, List.length_nil] at this
            omega
        · have := ih ks; omega
    exact key _ _ []
  have hbd : ∀ n ∈ tkF (bgP (cutF s 0) s.size) [] (cutF s 0), 0 ≤ n ∧ n ≤ 1000000 := fun n hn => by
    have h1 := ((tk_tgt _ _ _).1 hn).1
    rcases h1 with h1 | ⟨p, hp, rfl⟩
    · omega
    · have := (chn_a hch).1 p hp
      omega
  generalize cutF s 0 = l at *
  have hta := fun a c L h => Tryz.disTargetsG a c l s.size L h (by omega) (by omega) hch
  generalize tkF (bgP l s.size) [] l = K at *
  clear hch
  refine con_of Tryz.tysOk Tryz.func7 rfl rfl ?_
  conv => whnf
  repeat' (first | ((with_reducible refine (?_ : Cl _ 12 _ _ _ _)); (refine Cl.new (hcu _) (fun _ _ _ _ => ?_)); conv => whnf) | ((with_reducible refine Cl.exs (hta _ _ _ (by ((repeat ((refine Rd.own 0 rfl ?_); (assumption))); done))) (fun ⟨b, m⟩ ⟨hk1, hk2⟩ => ?_)); conv => whnf) | ((with_reducible refine Cl.exs (Tryz.mapsKeys _ _) (fun bm _ => ?_)); conv => whnf))
  dsimp only at hk1 hk2
  subst hk1
  have hso := fun bm L => Tryz.sortedKeys b bm m L (fun q hq => hbd q.1 (List.mem_map.2 ⟨q, hq, rfl⟩)) (by rw [List.length_map] at htl; omega)
  clear hta hcu hbd
  conv => whnf
  repeat' ((with_reducible refine (?_ : Cl _ 20 _ _ _ _)); (refine Cl.new (hso _ _) (fun _ _ _ _ => ?_)); conv => whnf)
  all_goals exact New.of rfl (by assumption) (by assumption) (by (refine FEnt.ent ?_; (repeat (first | exact FEnt.rfl | (refine FEnt.at 0 rfl ?_; (try simp only [List.eraseIdx_cons_zero, List.eraseIdx_cons_succ, List.eraseIdx_zero, List.tail_cons])) | refine FEnt.drop ?_)); done))
end Go.Proofs
