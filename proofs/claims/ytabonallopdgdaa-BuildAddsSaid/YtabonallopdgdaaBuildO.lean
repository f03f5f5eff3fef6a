/- One client more: the statement. -/
import Derived.Test.YtabonallopdgdaaBuildL
import Derived.Test.YtabonallopdgdaaBuildC
import Derived.Test.YtabonallopdgdaaConfG
set_option linter.all false
namespace Go.Eng
variable {P : Program} {L : List HP}
theorem CN.is {f : FuncId} {args : List Value} {v : Value} {K : Value → List HP → Prop} (c : ∀ M, Con P f args (M ++ L) (Is v (M ++ L))) (k : K v L) : CN P f args L K :=
  CN.exs (β := Unit) (V := fun _ => v) (H := fun _ => []) (R := fun _ => True) (fun M => (c M).mono (fun v' L' h => ⟨(), trivial, h.v, h.l⟩) (fun _ _ h => h)) (fun _ _ => k)
end Go.Eng
namespace Go.Proofs
open Go.Eng
open Classical
set_option linter.unusedVariables false
set_option maxRecDepth 100000
set_option maxHeartbeats 2000000
theorem right_b9 {C : Cfg} (h : Right C) (wc : C.ws.length ≤ C.wc) (sc : C.ss.length ≤ C.sc) (cc : C.xs.length ≤ C.cc) : CfB C := by
  have hf := h.f
  refine ⟨⟨by omega, by omega⟩, fun x hx => ?_, fun x hx => ?_, fun x hx => ?_, wc, sc, cc⟩
  · obtain ⟨i, hi, rfl⟩ := List.getElem_of_mem hx
    have hg : goodW C (cW C i) := Classical.byContradiction fun hn => h.r4 i hi hn
    rw [show cW C i = C.ws[i] from by simp [cW, List.getD, hi]] at hg
    obtain ⟨⟨a1, a2⟩, ⟨a3, a4⟩, a5⟩ := hg
    exact ⟨⟨by omega, by omega⟩, ⟨by omega, by omega⟩, ⟨by omega, by omega⟩⟩
  · obtain ⟨i, hi, rfl⟩ := List.getElem_of_mem hx
    have hg : goodS C (cS C i) := Classical.byContradiction fun hn => h.r8 i hi hn
    rw [show cS C i = C.ss[i] from by simp [cS, List.getD, hi]] at hg
    obtain ⟨⟨a1, a2⟩, ⟨⟨a3, a4⟩, a5⟩, _⟩ := hg
    exact ⟨⟨by omega, by omega⟩, ⟨by omega, by omega⟩, ⟨by omega, by omega⟩⟩
  · obtain ⟨i, hi, rfl⟩ := List.getElem_of_mem hx
    have hg : goodC (cX C i) := Classical.byContradiction fun hn => h.r2 i hi hn
    rw [show cX C i = C.xs[i] from by simp [cX, List.getD, hi]] at hg
    obtain ⟨⟨a1, a2, a3, a4⟩, ⟨a5, a6, a7⟩, ⟨a8, a9, a10, a11⟩, ⟨a12, a13, a14, a15⟩, a16, a17, a18, a19⟩ := hg
    have hk : ringK C.xs[i].r := Classical.byContradiction fun hn => a5 (by unfold ringN; rw [if_neg hn])
    have hR := ringN_bd C.xs[i].r
    exact ⟨⟨by omega, by omega⟩, ⟨by omega, by omega⟩, ⟨by omega, by omega⟩, ⟨by omega, by omega⟩, ⟨by omega, by omega⟩, ⟨by omega, by omega⟩, ⟨by omega, by omega⟩, ⟨by omega, by omega⟩, ⟨by omega, by omega⟩, ⟨by omega, by omega⟩⟩
theorem gapS_pos {n least size r : Int} {xs : List Sp} (h : GapS n least size xs r) (h0 : 0 ≤ r) : least ≤ r ∧ r + size ≤ n ∧ freeP xs size r := by
  rcases h with ⟨h1, h2, h3, _⟩ | ⟨h, _⟩
  · exact ⟨h1, h2, h3⟩
  · omega
theorem getD_snoc {α : Type} {xs : List α} {y d : α} {i : Nat} (h : i < xs.length) : (xs ++ [y]).getD i d = xs.getD i d := by
  simp [List.getD, List.getElem?_append, h]
theorem getD_last {α : Type} {xs : List α} {y d : α} : (xs ++ [y]).getD xs.length d = y := by
  simp [List.getD]
theorem nodup_len : ∀ (n : Nat) (l : List Int), l.Nodup → (∀ x ∈ l, 0 ≤ x ∧ x < n) → l.length ≤ n
  | 0, l, _, h => by
    cases l with
    | nil => exact Nat.le_refl _
    | cons x l => have := h x (by simp); omega
  | n + 1, l, hn, h => by
    have h1 := nodup_len n (l.erase (n : Int)) (hn.erase _) (fun x hx => by
      have h2 := h x (List.mem_of_mem_erase hx)
      have h3 : x ≠ (n : Int) := fun e => by
        rw [e] at hx
        exact (List.Nodup.mem_erase_iff hn).1 hx |>.1 rfl
      omega)
    have h4 := List.length_erase (a := (n : Int)) (l := l)
    rw [h4] at h1
    split at h1 <;> omega
theorem free_no {xs : List Sp} {size r a b : Int} (hf : freeP xs size r) (hm : (a, b) ∈ xs) (h0 : 0 ≤ a) (h : meetS r (r + size) a b) : False := by
  obtain ⟨⟨h1, h2⟩, ⟨h3, h4⟩, h5, h6⟩ := h
  exact hf (max r a) (by omega) (by omega) ⟨(a, b), hm, ⟨h0, by show a ≤ _; omega, by show _ < b; omega⟩⟩
theorem meetS_comm {f t g u : Int} (h : meetS f t g u) : meetS g u f t := ⟨h.2.1, h.1, h.2.2.2, h.2.2.1⟩
theorem wins_le {C : Cfg} (hR : Right C) : C.ws.length ≤ C.xs.length + 1 := by
  have h1 : (C.ws.map fun w => w.1).length ≤ C.xs.length + 1 := nodup_len _ _ (List.pairwise_iff_getElem.2 (fun i j hi hj hij he => by
    rw [List.length_map] at hi hj
    rw [List.getElem_map, List.getElem_map] at he
    refine hR.r5 j hj ⟨i, hij, .inr ?_⟩
    rw [show cW C j = C.ws[j] from by simp [cW, List.getD, hj], show cW C i = C.ws[i] from by simp [cW, List.getD, hi]]
    exact he.symm)) (fun x hx => by
    obtain ⟨i, hi, rfl⟩ := (mem_map_at (d := slE.d)).1 hx
    have hg : goodW C (cW C i) := Classical.byContradiction fun hn => hR.r4 i hi hn
    have := hg.1
    simp only [cW] at this
    omega)
  rwa [List.length_map] at h1
theorem goodC_new {w : Wsh} {rb rf : Int} {nm nh : Nat} (hw : mayW w) (hb : 128 ≤ rb ∧ rb ≤ 16384 - w.z) (hf : 0 ≤ rf ∧ rf ≤ 512 - w.s) (hm : nm ≤ 8) (hh : nh ≤ 8) : goodC (newX w rb rf nm nh) := by
  obtain ⟨⟨w1, w2, w3, w4⟩, ⟨w5, w6, w7, w8⟩, w9, w10, w11, w12⟩ := hw
  have hR := ringN_bd w.r
  have hk : ¬ ringN w.r = 0 := by unfold ringN; rw [if_pos w3]; omega
  simp only [goodC, goodP]
  generalize ringN w.r = R at *
  exact ⟨⟨w1, w2, hb.1, hb.2⟩, ⟨hk, by omega, by omega⟩, ⟨w5, w6, w7, w8⟩, ⟨by omega, by omega, by omega, by omega⟩, ⟨w9, w10, hf.1, hf.2⟩⟩
theorem unN_new {C D : Cfg} {o : Int} {s : Slt} (hs : D.ss = C.ss ++ [s]) (hg : ∀ x ∈ C.ss, goodS D x ↔ goodS C x) : unN D o D.ss.length = unN C o C.ss.length + if s.1 = o ∧ goodS D s then (s.2.2 - s.2.1) / 4 else 0 := by
  unfold unN
  rw [List.take_length, List.take_length, hs, List.map_append, List.sum_append]
  congr 1
  · congr 1
    refine List.map_congr_left fun x hx => ?_
    by_cases h : x.1 = o ∧ goodS C x
    · rw [if_pos h, if_pos ⟨h.1, (hg x hx).2 h.2⟩]
    · rw [if_neg h, if_neg (fun h' => h ⟨h'.1, (hg x hx).1 h'.2⟩)]
  · simp
abbrev addC (C : Cfg) (w : Wsh) (rb rf rp rs : Int) (nm nh : Nat) (wa sa ca : Option Addr) (wc sc cc : Nat) : Cfg := ⟨C.F, wa, wc, newW C w rp, sa, sc, newS C w rs, ca, cc, newC C w rb rf nm nh⟩
theorem add_right {C : Cfg} {w : Wsh} {rb rf rp rs : Int} {nm nh : Nat} (hR : Right C) (h8 : ¬ C.xs.length = 8) (hw : mayW w) (hA : AddP C w rb rf rp rs nm nh) (hfu : ¬ addFull C rb rf rp rs) (wa sa ca : Option Addr) (wc sc cc : Nat) : Right (addC C w rb rf rp rs nm nh wa sa ca wc sc cc) := by
  have hf := hR.f
  have hbd := addP_bd hA hw (by omega) (by omega)
  have hwl := wins_le hR
  have hss : ¬ shortC C := fun h => hfu (.inl h)
  have hn : (0 ≤ rb ∧ 0 ≤ rf ∧ 0 ≤ rp ∧ 0 ≤ rs) ∧ C.ss.length ≠ 32 := by
    have : ¬ ((rb < 0 ∨ rf < 0 ∨ rp < 0 ∨ rs < 0) ∨ C.ss.length = 32) := fun h => hfu (.inr h)
    omega
  have hwb : (32 ≤ w.z ∧ w.z ≤ 1024) ∧ (1 ≤ w.q ∧ w.q ≤ 16) ∧ (0 ≤ w.s ∧ w.s ≤ 64) ∧ (1 ≤ w.p ∧ w.p ≤ 4096) := by
    obtain ⟨⟨w1, w2, -, -⟩, ⟨w3, w4, -, -⟩, w5, w6, w7, w8⟩ := hw
    omega
  have m1 := gapS_pos (gapR_s (by omega) (by omega) hA.gb) hn.1.1
  have m3 := gapS_pos (gapR_s (by omega) (by omega) hA.gp) hn.1.2.2.1
  have m4 := gapS_pos (gapR_s (by omega) (by omega) hA.gs) hn.1.2.2.2
  have m2 : rf ≤ 512 - w.s ∧ (0 < w.s → freeP (secT C.xs) w.s rf) := by
    have hg := hA.gf
    by_cases hs : 0 < w.s
    · rw [if_pos hs] at hg
      have := gapS_pos (gapR_s (by omega) (by omega) hg) hn.1.2.1
      exact ⟨by omega, fun _ => this.2.2⟩
    · rw [if_neg hs] at hg
      exact ⟨by omega, fun h => absurd h hs⟩
  have lW : (newW C w rp).length = C.ws.length + 1 := by simp [newW]
  have lS : (newS C w rs).length = C.ss.length + 1 := by simp [newS]
  have lC : (newC C w rb rf nm nh).length = C.xs.length + 1 := by simp [newC]
  have gC : ∀ i, i < C.xs.length → goodC (C.xs.getD i clE.d) := fun i hi => Classical.byContradiction fun hn => hR.r2 i hi hn
  have gW : ∀ i, i < C.ws.length → goodW C (C.ws.getD i slE.d) := fun i hi => Classical.byContradiction fun hn => hR.r4 i hi hn
  have gS : ∀ i, i < C.ss.length → goodS C (C.ss.getD i slE.d) := fun i hi => Classical.byContradiction fun hn => hR.r8 i hi hn
  have eC : ∀ i, i < C.xs.length → (newC C w rb rf nm nh).getD i clE.d = C.xs.getD i clE.d := fun i hi => getD_snoc hi
  have eW : ∀ i, i < C.ws.length → (newW C w rp).getD i slE.d = C.ws.getD i slE.d := fun i hi => getD_snoc hi
  have eS : ∀ i, i < C.ss.length → (newS C w rs).getD i slE.d = C.ss.getD i slE.d := fun i hi => getD_snoc hi
  have zC : (newC C w rb rf nm nh).getD C.xs.length clE.d = newX w rb rf nm nh := getD_last
  have zW : (newW C w rp).getD C.ws.length slE.d = ((C.xs.length : Int) + 1, rp, rp + w.p) := getD_last
  have zS : (newS C w rs).getD C.ss.length slE.d = ((C.xs.length : Int) + 1, rs, rs + w.q * 4) := getD_last
  have gnew : goodC (newX w rb rf nm nh) := goodC_new hw ⟨m1.1, by omega⟩ ⟨hn.1.2.1, m2.1⟩ hbd.m hbd.h
  have hfr : frF (addC C w rb rf rp rs nm nh wa sa ca wc sc cc) := by
    show 1 ≤ C.F ∧ C.F ≤ 4096 ∧ 1 ≤ (newC C w rb rf nm nh).length ∧ (newC C w rb rf nm nh).length ≤ 8 ∧ (newW C w rp).length ≤ 9 ∧ (newS C w rs).length ≤ 32
    omega
  refine ⟨hfr, fun i hi => ?_, fun i hi => ?_, fun i hi => ?_, fun i hi => ?_, fun o ho => ?_, ?_, fun i hi => ?_, fun i hi => ?_, fun i hi => ?_⟩
  · have hi : i < C.xs.length + 1 := by rw [← lC]; exact hi
    show ¬ ¬ goodC ((newC C w rb rf nm nh).getD i clE.d)
    rcases Nat.lt_or_ge i C.xs.length with h | h
    · rw [eC i h]
      exact fun hh => hh (gC i h)
    · rw [show i = C.xs.length from by omega, zC]
      exact fun hh => hh gnew
  · have hi : i < C.xs.length + 1 := by rw [← lC]; exact hi
    rintro ⟨hg, j, hj, hgj, hs⟩
    have hg : goodC ((newC C w rb rf nm nh).getD i clE.d) := hg
    have hgj : goodC ((newC C w rb rf nm nh).getD j clE.d) := hgj
    have hs : sameC ((newC C w rb rf nm nh).getD i clE.d) ((newC C w rb rf nm nh).getD j clE.d) := hs
    rcases Nat.lt_or_ge i C.xs.length with h | h
    · rw [eC i h] at hg hs
      rw [eC j (by omega)] at hgj hs
      exact hR.r3 i h ⟨hg, j, hj, hgj, hs⟩
    · have hjn : j < C.xs.length := by omega
      rw [show i = C.xs.length from by omega, zC, eC j hjn] at hs
      have hgj2 := gC j hjn
      have b0 : 0 ≤ (C.xs.getD j clE.d).b := by have := hgj2.1; omega
      have f0 : 0 ≤ (C.xs.getD j clE.d).f := by have := hgj2.2.2.2.2; omega
      rcases hs with hs | hs | hs | hs
      · exact hA.lm.no ((mem_map_at (d := clE.d)).2 ⟨j, hjn, hs.symm⟩)
      · exact hA.lh.no ((mem_map_at (d := clE.d)).2 ⟨j, hjn, hs.symm⟩)
      · exact free_no m1.2.2 (List.mem_map.2 ⟨_, getD_mem (d := clE.d) hjn, rfl⟩) b0 hs
      · have hws : 0 < w.s := by have := hs.1.2; simp only at this; omega
        exact free_no (m2.2 hws) (List.mem_map.2 ⟨_, getD_mem (d := clE.d) hjn, rfl⟩) f0 hs
  · have hi : i < C.ws.length + 1 := by rw [← lW]; exact hi
    show ¬ ¬ goodW (addC C w rb rf rp rs nm nh wa sa ca wc sc cc) ((newW C w rp).getD i slE.d)
    refine fun hh => hh ?_
    show (0 ≤ _ ∧ _ ≤ (((newC C w rb rf nm nh).length : Nat) : Int)) ∧ isS _ _ ∧ _ ≤ C.F
    rcases Nat.lt_or_ge i C.ws.length with h | h
    · rw [eW i h, lC]
      have hg := gW i h
      exact ⟨⟨hg.1.1, by have := hg.1.2; omega⟩, hg.2.1, hg.2.2⟩
    · rw [show i = C.ws.length from by omega, zW, lC]
      exact ⟨⟨by dsimp only; omega, by dsimp only; omega⟩, ⟨by dsimp only; omega, by dsimp only; omega⟩, by dsimp only; omega⟩
  · have hi : i < C.ws.length + 1 := by rw [← lW]; exact hi
    rintro ⟨j, hj, hs⟩
    have hs : meetW ((newW C w rp).getD i slE.d) ((newW C w rp).getD j slE.d) ∨ ((newW C w rp).getD i slE.d).1 = ((newW C w rp).getD j slE.d).1 := hs
    rcases Nat.lt_or_ge i C.ws.length with h | h
    · rw [eW i h, eW j (by omega)] at hs
      exact hR.r5 i h ⟨j, hj, hs⟩
    · have hjn : j < C.ws.length := by omega
      rw [show i = C.ws.length from by omega, zW, eW j hjn] at hs
      have hg := gW j hjn
      rcases hs with hs | hs
      · exact free_no m3.2.2 (List.mem_map.2 ⟨_, getD_mem (d := slE.d) hjn, rfl⟩) hg.2.1.1 hs
      · have := hg.1.2
        dsimp only at hs
        omega
  · have ho : o < C.xs.length + 1 + 1 := by
      have : o < (newC C w rb rf nm nh).length + 1 := ho
      omega
    refine fun hh => hh ?_
    show ∃ j, j < (newW C w rp).length ∧ ((newW C w rp).getD j slE.d).1 = o
    rcases Nat.lt_or_ge o (C.xs.length + 1) with h | h
    · have h6 : ∃ j, j < C.ws.length ∧ (cW C j).1 = o := Classical.byContradiction fun hn => hR.r6 o h hn
      obtain ⟨j, hj, he⟩ := h6
      exact ⟨j, by omega, by rw [eW j hj]; exact he⟩
    · exact ⟨C.ws.length, by omega, by rw [zW]; dsimp only; omega⟩
  · rintro ⟨k, hk, h0, hfi, hg, hl⟩
    have hk : k < C.ws.length + 1 := by rw [← lW]; exact hk
    have h0 : ((newW C w rp).getD k slE.d).1 = 0 := h0
    have hl : ((newW C w rp).getD k slE.d).2.2 - ((newW C w rp).getD k slE.d).2.1 < 2 * (((newC C w rb rf nm nh).length : Nat) : Int) := hl
    rcases Nat.lt_or_ge k C.ws.length with h | h
    · rw [eW k h] at h0 hl
      rw [lC] at hl
      exact hss ⟨k, h, h0, by omega⟩
    · rw [show k = C.ws.length from by omega, zW] at h0
      dsimp only at h0
      omega
  · have hi : i < C.ss.length + 1 := by rw [← lS]; exact hi
    refine fun hh => hh ?_
    show (1 ≤ ((newS C w rs).getD i slE.d).1 ∧ ((newS C w rs).getD i slE.d).1 ≤ (((newC C w rb rf nm nh).length : Nat) : Int)) ∧ (isS ((newS C w rs).getD i slE.d).2.1 ((newS C w rs).getD i slE.d).2.2 ∧ ((newS C w rs).getD i slE.d).2.2 ≤ C.F) ∧ 4 ≤ ((newS C w rs).getD i slE.d).2.2 - ((newS C w rs).getD i slE.d).2.1
    rcases Nat.lt_or_ge i C.ss.length with h | h
    · rw [eS i h, lC]
      have hg := gS i h
      exact ⟨⟨hg.1.1, by have := hg.1.2; omega⟩, hg.2.1, hg.2.2⟩
    · rw [show i = C.ss.length from by omega, zS, lC]
      exact ⟨⟨by dsimp only; omega, by dsimp only; omega⟩, ⟨⟨by dsimp only; omega, by dsimp only; omega⟩, by dsimp only; omega⟩, by dsimp only; omega⟩
  · have hi : i < C.ss.length + 1 := by rw [← lS]; exact hi
    rintro ⟨j, hj, hs⟩
    have hs : meetW ((newS C w rs).getD i slE.d) ((newS C w rs).getD j slE.d) := hs
    rcases Nat.lt_or_ge i C.ss.length with h | h
    · rw [eS i h, eS j (by omega)] at hs
      exact hR.r9 i h ⟨j, hj, hs⟩
    · have hjn : j < C.ss.length := by omega
      rw [show i = C.ss.length from by omega, zS, eS j hjn] at hs
      have hg := gS j hjn
      exact free_no m4.2.2 (List.mem_map.2 ⟨_, getD_mem (d := slE.d) hjn, rfl⟩) hg.2.1.1.1 hs
  · have hi : i < C.xs.length + 1 := by rw [← lC]; exact hi
    have hgs : ∀ x ∈ C.ss, goodS (addC C w rb rf rp rs nm nh wa sa ca wc sc cc) x ↔ goodS C x := fun x hx => by
      obtain ⟨j, hj, rfl⟩ := List.getElem_of_mem hx
      have hg := gS j hj
      rw [show C.ss.getD j slE.d = C.ss[j] from by simp [List.getD, hj]] at hg
      refine ⟨fun _ => hg, fun _ => ?_⟩
      show (1 ≤ _ ∧ _ ≤ (((newC C w rb rf nm nh).length : Nat) : Int)) ∧ _
      rw [lC]
      exact ⟨⟨hg.1.1, by have := hg.1.2; omega⟩, hg.2.1, hg.2.2⟩
    have hu := fun o => unN_new (C := C) (D := addC C w rb rf rp rs nm nh wa sa ca wc sc cc) (o := o) rfl hgs
    show ¬ unF (addC C w rb rf rp rs nm nh wa sa ca wc sc cc) ((i : Int) + 1) < ((newC C w rb rf nm nh).getD i clE.d).q
    unfold unF
    rw [if_pos hfr, hu]
    rcases Nat.lt_or_ge i C.xs.length with h | h
    · have h10 : ¬ unF C ((i : Int) + 1) < (C.xs.getD i clE.d).q := hR.r10 i h
      unfold unF at h10
      rw [if_pos hf] at h10
      rw [eC i h, if_neg (fun hh => by have := hh.1; dsimp only at this; omega)]
      omega
    · have hbn := (unN_bd (o := (i : Int) + 1) hf C.ss.length (Nat.le_refl _)).1
      have hgd : goodS (addC C w rb rf rp rs nm nh wa sa ca wc sc cc) ((C.xs.length : Int) + 1, rs, rs + w.q * 4) := by
        show (1 ≤ _ ∧ _ ≤ (((newC C w rb rf nm nh).length : Nat) : Int)) ∧ (isS _ _ ∧ _ ≤ C.F) ∧ 4 ≤ _
        rw [lC]
        exact ⟨⟨by dsimp only; omega, by dsimp only; omega⟩, ⟨⟨by dsimp only; omega, by dsimp only; omega⟩, by dsimp only; omega⟩, by dsimp only; omega⟩
      rw [if_pos ⟨by dsimp only; omega, hgd⟩, show i = C.xs.length from by omega, zC]
      rw [show i = C.xs.length from by omega] at hbn
      dsimp only
      omega
abbrev addV (C : Cfg) (w : Wsh) (rb rf rp rs : Int) (nm nh : Nat) (e : Value) (y : Row3) : Value := .tuple #[.agg #[n64 C.F, .slice y.1.1 (newW C w rp).length y.1.2, .slice y.2.1.1 (newS C w rs).length y.2.1.2, .slice y.2.2.1 (newC C w rb rf nm nh).length y.2.2.2], e]
abbrev addH (C : Cfg) (w : Wsh) (rb rf rp rs : Int) (nm nh : Nat) (y : Row3) : List HP := [own slE 62 y.1.1 y.1.2 (newW C w rp), own slE 67 y.2.1.1 y.2.1.2 (newS C w rs), own clE 64 y.2.2.1 y.2.2.2 (newC C w rb rf nm nh)]
abbrev addR (C : Cfg) (w : Wsh) (rb rf rp rs : Int) (nm nh : Nat) (y : Row3) : Prop := ((newW C w rp).length ≤ y.1.2 ∧ Ad y.1.1 (newW C w rp).length) ∧ ((newS C w rs).length ≤ y.2.1.2 ∧ Ad y.2.1.1 (newS C w rs).length) ∧ ((newC C w rb rf nm nh).length ≤ y.2.2.2 ∧ Ad y.2.2.1 (newC C w rb rf nm nh).length)
theorem Try.buildAddsLaw (C : Cfg) (w : Wsh) (L : List HP) (hB : CfB C) (h1 : Rd slE L C.wa C.ws) (h2 : Rd slE L C.sa C.ss) (h3 : Rd clE L C.ca C.xs) :
    Con Try.prog 5 [cfV C, wsV w] L (Is (.bool true) L) := by
  have hfa := fun L h1 h2 h3 => Try.refFaults C L hB h1 h2 h3
  by_cases hR : Right C
  · by_cases h8 : C.xs.length = 8
    · have ha := fun L h1 h2 h3 => Try.bldAddLim C w L hB hR h8 h1 h2 h3
      refine con_of Try.tysOk Try.func5 rfl rfl ?_
      conv => whnf
      repeat' (first
        | (first | ((with_reducible refine Br.tt ?_); conv => whnf) | ((with_reducible refine Br.dt ?_ ?_); (focus (first | assumption | omega)); conv => whnf) | ((with_reducible refine Br.df ?_ ?_); (focus (first | assumption | omega)); conv => whnf) | ((with_reducible refine Br.ndt ?_ ?_); (focus (first | assumption | omega)); conv => whnf))
        | ((with_reducible refine Nd.mk ?_ ?_); (focus (first | omega | rfl | assumption | (simp; done))); conv => whnf)
        | ((with_reducible refine Nc.go' (fun _ => ?_)); conv => whnf)
        | (refine Ld.at 2 rfl rfl ?_; conv => whnf)
        | (first | (refine LdN.at 0 rfl (by first | exact Nat.le_of_ble_eq_true rfl | (simp; done)) ?_; conv => whnf) | (refine LdN.at 1 rfl (by first | exact Nat.le_of_ble_eq_true rfl | (simp; done)) ?_; conv => whnf) | (refine LdN.at 2 rfl (by first | exact Nat.le_of_ble_eq_true rfl | (simp; done)) ?_; conv => whnf))
        | (refine St.at 0 rfl (by first | exact Nat.le_of_ble_eq_true rfl | (simp; done)) rfl ?_; conv => whnf)
        | (first | ((with_reducible refine Cl.is (ha _ (by ((repeat (first | assumption | apply Rd.cons)); done)) (by ((repeat (first | assumption | apply Rd.cons)); done)) (by ((repeat (first | assumption | apply Rd.cons)); done))) ?_); conv => whnf) | ((with_reducible refine (?_ : Cl _ 13 _ _ _ _)); (refine Cl.exs (hfa _ (by ((repeat (first | assumption | apply Rd.cons)); done)) (by ((repeat (first | assumption | apply Rd.cons)); done)) (by ((repeat (first | assumption | apply Rd.cons)); done))) ?_; rintro y2 ⟨hl2, he2⟩; have hz2 : y2.2.2.length = 0 := by rw [he2.2 hR]; rfl); conv => whnf) | ((with_reducible refine (?_ : Cl _ 11 _ _ _ _)); (refine Cl.is (Try.refSame ⟨0, none, 0, [], none, 0, [], none, 0, []⟩ none none none 0 0 0 _ (by decide) (by decide) (by decide) Rd.nil Rd.nil Rd.nil Rd.nil Rd.nil Rd.nil) ?_); conv => whnf) | ((with_reducible refine Cl.is (Try.bldLive _) ?_); conv => whnf)))
      all_goals first | (refine Is.ent ?_ ?_; (focus (refine FEnt.ent ?_; (repeat (first | exact FEnt.rfl | refine FEnt.drop ?_)); done)); (exact Is.rfl)) | (exfalso; omega)
    · by_cases hw : mayW w
      · obtain ⟨rb, rf, rp, rs, nm, nh, hA⟩ := addP_ex C w
        have hm := fun L => Con.dt hw (Try.refMay w L)
        by_cases hfu : addFull C rb rf rp rs
        · have ha := fun L h1 h2 h3 => Try.bldAddFull C w rb rf rp rs nm nh L hB hR h8 hw hA hfu h1 h2 h3
          have hd := fun L h1 h2 h3 => Try.refAddNo C w rb rf rp rs nm nh L hR h8 hw hA hfu h1 h2 h3
          clear hfu
          refine con_of Try.tysOk Try.func5 rfl rfl ?_
          conv => whnf
          repeat' (first
            | (first | ((with_reducible refine Br.tt ?_); conv => whnf) | ((with_reducible refine Br.nt ?_); conv => whnf) | ((with_reducible refine Br.nf ?_); conv => whnf) | ((with_reducible refine Br.dt ?_ ?_); (focus (first | assumption | omega)); conv => whnf) | ((with_reducible refine Br.df ?_ ?_); (focus (first | assumption | omega)); conv => whnf) | ((with_reducible refine Br.ndf ?_ ?_); (focus (first | assumption | omega)); conv => whnf))
            | ((with_reducible refine Nd.mk ?_ ?_); (focus (first | omega | rfl | assumption | (simp; done))); conv => whnf)
            | ((with_reducible refine Nc.go' (fun _ => ?_)); conv => whnf)
            | ((with_reducible refine Fk.mk ?_ ?_) <;> (conv => whnf))
            | (with_reducible exact True.intro)
            | (refine Ld.at 2 rfl rfl ?_; conv => whnf)
            | (first | (refine LdN.at 0 rfl (by first | exact Nat.le_of_ble_eq_true rfl | (simp; done)) ?_; conv => whnf) | (refine LdN.at 1 rfl (by first | exact Nat.le_of_ble_eq_true rfl | (simp; done)) ?_; conv => whnf) | (refine LdN.at 2 rfl (by first | exact Nat.le_of_ble_eq_true rfl | (simp; done)) ?_; conv => whnf))
            | (refine St.at 0 rfl (by first | exact Nat.le_of_ble_eq_true rfl | (simp; done)) rfl ?_; conv => whnf)
            | ((with_reducible refine Dr.tree (id := 11) Try.tysOk rfl (.one 0 1 (.one 1 1 (.one 2 1 (.fork 3 4 (.one 4 0 (.one 5 0 (.one 6 0 (.one 7 2 (.one 8 3 (.one 9 0 .nil)))))) (.fork 7 2 (.one 3 4 (.one 4 0 (.one 5 0 (.one 6 0 (.one 8 3 (.one 9 0 .nil)))))) .nil))))) ?_ _ ?_ (fun _ _ h => h)); (focus kernel_rfl); conv => whnf)
            | ((with_reducible refine CD.is (fun M => Try.bldRef _ _) ?_); conv => whnf)
            | (first | ((with_reducible refine Cl.is (ha _ (by ((repeat (first | assumption | apply Rd.cons)); done)) (by ((repeat (first | assumption | apply Rd.cons)); done)) (by ((repeat (first | assumption | apply Rd.cons)); done))) ?_); conv => whnf) | ((with_reducible refine Cl.is (hm _) ?_); conv => whnf) | ((with_reducible refine Cl.is (Try.bldRef _ _) ?_); conv => whnf) | ((with_reducible refine (?_ : Cl _ 13 _ _ _ _)); (refine Cl.exs (hfa _ (by ((repeat (first | assumption | apply Rd.cons)); done)) (by ((repeat (first | assumption | apply Rd.cons)); done)) (by ((repeat (first | assumption | apply Rd.cons)); done))) ?_; rintro y2 ⟨hl2, he2⟩; have hz2 : y2.2.2.length = 0 := by rw [he2.2 hR]; rfl); conv => whnf) | ((with_reducible refine (?_ : Cl _ 11 _ _ _ _)); (refine Cl.is (Try.refSame ⟨0, none, 0, [], none, 0, [], none, 0, []⟩ none none none 0 0 0 _ (by decide) (by decide) (by decide) Rd.nil Rd.nil Rd.nil Rd.nil Rd.nil Rd.nil) ?_); conv => whnf) | ((with_reducible refine Cl.is (Try.bldLive _) ?_); conv => whnf))
            | (((with_reducible refine (?_ : CN _ _ _ _ _)); refine CN.is (fun M => hd _ (by ((repeat (first | assumption | apply Rd.cons | apply Rd.app)); done)) (by ((repeat (first | assumption | apply Rd.cons | apply Rd.app)); done)) (by ((repeat (first | assumption | apply Rd.cons | apply Rd.app)); done))) ?_); conv => whnf))
          all_goals first | (refine Is.ent ?_ ?_; (focus (refine FEnt.ent ?_; (repeat (first | exact FEnt.rfl | refine FEnt.drop ?_)); done)); (exact Is.rfl)) | (exfalso; omega)
        · have ha := fun L h1 h2 h3 => Try.bldAddOk C w rb rf rp rs nm nh L hB hR h8 hw hA hfu h1 h2 h3
          have hd := fun L h1 h2 h3 => Try.refAddOk C w rb rf rp rs nm nh L hR h8 hw hA hfu h1 h2 h3
          have hN := add_right hR h8 hw hA hfu
          have hNf := (hN none none none 0 0 0).f
          have hlw : (newW C w rp).length ≤ 9 ∧ (newS C w rs).length ≤ 32 ∧ (newC C w rb rf nm nh).length ≤ 8 := by
            obtain ⟨-, -, -, a4, a5, a6⟩ := hNf
            exact ⟨a5, a6, a4⟩
          clear hfu hNf
          unfold addC at hN
          generalize newW C w rp = W at *
          generalize newS C w rs = S at *
          generalize newC C w rb rf nm nh = X at *
          have hF := hR.f
          refine con_of Try.tysOk Try.func5 rfl rfl ?_
          conv => whnf
          repeat' (first
            | (first | ((with_reducible refine Br.tt ?_); conv => whnf) | ((with_reducible refine Br.nt ?_); conv => whnf) | ((with_reducible refine Br.dt ?_ ?_); (focus (first | assumption | omega)); conv => whnf) | ((with_reducible refine Br.df ?_ ?_); (focus (first | assumption | omega)); conv => whnf) | ((with_reducible refine Br.ndf ?_ ?_); (focus (first | assumption | omega)); conv => whnf))
            | ((with_reducible refine Nd.mk ?_ ?_); (focus (first | omega | rfl | assumption | (simp; done))); conv => whnf)
            | ((with_reducible refine Nc.go' (fun _ => ?_)); conv => whnf)
            | ((with_reducible refine Fk.mk ?_ ?_) <;> (conv => whnf))
            | (with_reducible exact True.intro)
            | (refine Ld.at 5 rfl rfl ?_; conv => whnf)
            | (first | (refine LdN.at 0 rfl (by first | exact Nat.le_of_ble_eq_true rfl | (simp; done)) ?_; conv => whnf) | (refine LdN.at 1 rfl (by first | exact Nat.le_of_ble_eq_true rfl | (simp; done)) ?_; conv => whnf) | (refine LdN.at 3 rfl (by first | exact Nat.le_of_ble_eq_true rfl | (simp; done)) ?_; conv => whnf) | (refine LdN.at 4 rfl (by first | exact Nat.le_of_ble_eq_true rfl | (simp; done)) ?_; conv => whnf) | (refine LdN.at 5 rfl (by first | exact Nat.le_of_ble_eq_true rfl | (simp; done)) ?_; conv => whnf))
            | (first | (refine St.at 0 rfl (by first | exact Nat.le_of_ble_eq_true rfl | (simp; done)) rfl ?_; conv => whnf) | (refine St.at 3 rfl (by first | exact Nat.le_of_ble_eq_true rfl | (simp; done)) rfl ?_; conv => whnf))
            | ((with_reducible refine Dr.tree (id := 11) Try.tysOk rfl (.one 0 1 (.one 1 1 (.one 2 1 (.fork 3 4 (.one 4 0 (.one 5 0 (.one 6 0 (.one 7 2 (.one 8 3 (.one 9 0 .nil)))))) (.fork 7 2 (.one 3 4 (.one 4 0 (.one 5 0 (.one 6 0 (.one 8 3 (.one 9 0 .nil)))))) .nil))))) ?_ _ ?_ (fun _ _ h => h)); (focus kernel_rfl); conv => whnf)
            | ((with_reducible refine CD.is (fun M => Try.bldRef _ _) ?_); conv => whnf)
            | (first | ((with_reducible refine (?_ : Cl _ 16 _ _ _ _)); (refine Cl.exs (ha _ (by ((repeat (first | assumption | apply Rd.cons)); done)) (by ((repeat (first | assumption | apply Rd.cons)); done)) (by ((repeat (first | assumption | apply Rd.cons)); done))) ?_; rintro ⟨⟨wa, wc⟩, ⟨sa, sc⟩, ⟨ca, cc⟩⟩ ⟨⟨p1, p2⟩, ⟨p3, p4⟩, ⟨p5, p6⟩⟩; dsimp only at p1 p2 p3 p4 p5 p6); conv => whnf) | ((with_reducible refine Cl.is (hm _) ?_); conv => whnf) | ((with_reducible refine Cl.is (Try.bldRef _ _) ?_); conv => whnf) | ((with_reducible refine (?_ : Cl _ 13 _ _ _ _)); (first | (refine Cl.exs (hfa _ (by ((repeat (first | assumption | apply Rd.cons)); done)) (by ((repeat (first | assumption | apply Rd.cons)); done)) (by ((repeat (first | assumption | apply Rd.cons)); done))) ?_; rintro y2 ⟨hl2, he2⟩; have hz2 : y2.2.2.length = 0 := by rw [he2.2 hR]; rfl) | (refine Cl.exs (Try.refFaults ⟨C.F, wa, wc, W, sa, sc, S, ca, cc, X⟩ _ (right_b9 (hN wa sa ca wc sc cc) p1 p3 p5) (by dsimp only; ((repeat ((refine Rd.own 5 rfl ?_); (assumption))); done)) (by dsimp only; ((repeat ((refine Rd.own 6 rfl ?_); (assumption))); done)) (by dsimp only; ((repeat (first | ((refine Rd.own 6 rfl ?_); (assumption)) | apply Rd.cons)); done))) ?_; rintro y3 ⟨hl3, he3⟩; have hz3 : y3.2.2.length = 0 := by rw [he3.2 (hN wa sa ca wc sc cc)]; rfl)); conv => whnf) | ((with_reducible refine (?_ : Cl _ 11 _ _ _ _)); (refine Cl.is (Try.refSame ⟨C.F, wa, wc, W, sa, sc, S, ca, cc, X⟩ wa' sa' ca' wc' sc' cc' _ (by dsimp only; omega) (by dsimp only; omega) (by dsimp only; omega) (by dsimp only; ((repeat ((refine Rd.own 5 rfl ?_); (assumption))); done)) (by dsimp only; ((repeat ((refine Rd.own 6 rfl ?_); (assumption))); done)) (by dsimp only; ((repeat (first | ((refine Rd.own 6 rfl ?_); (assumption)) | apply Rd.cons)); done)) (by dsimp only; ((repeat ((first | refine Rd.own 0 rfl ?_ | refine Rd.own 1 rfl ?_); (assumption))); done)) (by dsimp only; ((repeat ((first | refine Rd.own 1 rfl ?_ | refine Rd.own 2 rfl ?_); (assumption))); done)) (by dsimp only; ((repeat ((first | refine Rd.own 2 rfl ?_ | refine Rd.own 3 rfl ?_); (assumption))); done))) ?_); conv => whnf) | ((with_reducible refine Cl.is (Try.bldLive _) ?_); conv => whnf))
            | (((with_reducible refine (?_ : CN _ _ _ _ _)); refine CN.exs (V := fun y : Row3 => .tuple #[.agg #[n64 C.F, .slice y.1.1 W.length y.1.2, .slice y.2.1.1 S.length y.2.1.2, .slice y.2.2.1 X.length y.2.2.2], .bool true]) (H := fun y => [own slE 62 y.1.1 y.1.2 W, own slE 67 y.2.1.1 y.2.1.2 S, own clE 64 y.2.2.1 y.2.2.2 X]) (fun M => hd _ (by ((repeat (first | assumption | apply Rd.cons | apply Rd.app)); done)) (by ((repeat (first | assumption | apply Rd.cons | apply Rd.app)); done)) (by ((repeat (first | assumption | apply Rd.cons | apply Rd.app)); done))) ?_; rintro ⟨⟨wa', wc'⟩, ⟨sa', sc'⟩, ⟨ca', cc'⟩⟩ ⟨⟨q1, q2⟩, ⟨q3, q4⟩, ⟨q5, q6⟩⟩; dsimp only at q1 q2 q3 q4 q5 q6); conv => whnf))
          all_goals first | (refine Is.ent ?_ ?_; (focus (refine FEnt.ent ?_; (repeat (first | exact FEnt.rfl | refine FEnt.drop ?_)); done)); (exact Is.ttr (by first | assumption | omega))) | (exfalso; omega)
      · have ha := fun L h1 h2 h3 => Try.bldAddArg C w L hB hR h8 hw h1 h2 h3
        have hm := fun L => Con.df hw (Try.refMay w L)
        refine con_of Try.tysOk Try.func5 rfl rfl ?_
        conv => whnf
        repeat' (first
          | (first | ((with_reducible refine Br.tt ?_); conv => whnf) | ((with_reducible refine Br.nf ?_); conv => whnf) | ((with_reducible refine Br.dt ?_ ?_); (focus (first | assumption | omega)); conv => whnf) | ((with_reducible refine Br.df ?_ ?_); (focus (first | assumption | omega)); conv => whnf) | ((with_reducible refine Br.ndt ?_ ?_); (focus (first | assumption | omega)); conv => whnf))
          | ((with_reducible refine Nd.mk ?_ ?_); (focus (first | omega | rfl | assumption | (simp; done))); conv => whnf)
          | ((with_reducible refine Nc.go' (fun _ => ?_)); conv => whnf)
          | (refine Ld.at 2 rfl rfl ?_; conv => whnf)
          | (first | (refine LdN.at 0 rfl (by first | exact Nat.le_of_ble_eq_true rfl | (simp; done)) ?_; conv => whnf) | (refine LdN.at 1 rfl (by first | exact Nat.le_of_ble_eq_true rfl | (simp; done)) ?_; conv => whnf) | (refine LdN.at 2 rfl (by first | exact Nat.le_of_ble_eq_true rfl | (simp; done)) ?_; conv => whnf))
          | (refine St.at 0 rfl (by first | exact Nat.le_of_ble_eq_true rfl | (simp; done)) rfl ?_; conv => whnf)
          | (first | ((with_reducible refine Cl.is (ha _ (by ((repeat (first | assumption | apply Rd.cons)); done)) (by ((repeat (first | assumption | apply Rd.cons)); done)) (by ((repeat (first | assumption | apply Rd.cons)); done))) ?_); conv => whnf) | ((with_reducible refine Cl.is (hm _) ?_); conv => whnf) | ((with_reducible refine Cl.is (Try.bldRef _ _) ?_); conv => whnf) | ((with_reducible refine (?_ : Cl _ 13 _ _ _ _)); (refine Cl.exs (hfa _ (by ((repeat (first | assumption | apply Rd.cons)); done)) (by ((repeat (first | assumption | apply Rd.cons)); done)) (by ((repeat (first | assumption | apply Rd.cons)); done))) ?_; rintro y2 ⟨hl2, he2⟩; have hz2 : y2.2.2.length = 0 := by rw [he2.2 hR]; rfl); conv => whnf) | ((with_reducible refine (?_ : Cl _ 11 _ _ _ _)); (refine Cl.is (Try.refSame ⟨0, none, 0, [], none, 0, [], none, 0, []⟩ none none none 0 0 0 _ (by decide) (by decide) (by decide) Rd.nil Rd.nil Rd.nil Rd.nil Rd.nil Rd.nil) ?_); conv => whnf) | ((with_reducible refine Cl.is (Try.bldLive _) ?_); conv => whnf)))
        all_goals first | (refine Is.ent ?_ ?_; (focus (refine FEnt.ent ?_; (repeat (first | exact FEnt.rfl | refine FEnt.drop ?_)); done)); (exact Is.rfl)) | (exfalso; omega)
  · have ha := fun L h1 h2 h3 => Try.bldAddFit C w L hB hR h1 h2 h3
    refine con_of Try.tysOk Try.func5 rfl rfl ?_
    conv => whnf
    repeat' (first
      | (first | ((with_reducible refine Br.tt ?_); conv => whnf) | ((with_reducible refine Br.dt ?_ ?_); (focus (first | assumption | omega)); conv => whnf) | ((with_reducible refine Br.ndt ?_ ?_); (focus (first | assumption | omega)); conv => whnf))
      | ((with_reducible refine Nd.mk ?_ ?_); (focus (first | omega | rfl | assumption | (simp; done))); conv => whnf)
      | ((with_reducible refine Nc.go' (fun _ => ?_)); conv => whnf)
      | (first | (refine LdN.at 0 rfl (by first | exact Nat.le_of_ble_eq_true rfl | (simp; done)) ?_; conv => whnf) | (refine LdN.at 1 rfl (by first | exact Nat.le_of_ble_eq_true rfl | (simp; done)) ?_; conv => whnf) | (refine LdN.at 2 rfl (by first | exact Nat.le_of_ble_eq_true rfl | (simp; done)) ?_; conv => whnf))
      | (refine St.at 0 rfl (by first | exact Nat.le_of_ble_eq_true rfl | (simp; done)) rfl ?_; conv => whnf)
      | (first | ((with_reducible refine Cl.is (ha _ (by ((repeat (first | assumption | apply Rd.cons)); done)) (by ((repeat (first | assumption | apply Rd.cons)); done)) (by ((repeat (first | assumption | apply Rd.cons)); done))) ?_); conv => whnf) | ((with_reducible refine (?_ : Cl _ 13 _ _ _ _)); (refine Cl.exs (hfa _ (by ((repeat (first | assumption | apply Rd.cons)); done)) (by ((repeat (first | assumption | apply Rd.cons)); done)) (by ((repeat (first | assumption | apply Rd.cons)); done))) ?_; rintro y2 ⟨hl2, he2⟩; have hz2 : 0 < y2.2.2.length := List.length_pos_iff.2 (fun h => hR (he2.1 h))); conv => whnf) | ((with_reducible refine (?_ : Cl _ 11 _ _ _ _)); (refine Cl.is (Try.refSame ⟨0, none, 0, [], none, 0, [], none, 0, []⟩ none none none 0 0 0 _ (by decide) (by decide) (by decide) Rd.nil Rd.nil Rd.nil Rd.nil Rd.nil Rd.nil) ?_); conv => whnf) | ((with_reducible refine Cl.is (Try.bldLive _) ?_); conv => whnf)))
    all_goals first | (refine Is.ent ?_ ?_; (focus (refine FEnt.ent ?_; (repeat (first | exact FEnt.rfl | refine FEnt.drop ?_)); done)); (exact Is.rfl)) | (exfalso; omega)
end Go.Proofs
