/- The assembler's laws: AsmShifts. -/
import Derived.Test.YtjlofcnmehpbaaaDoorAsmR
set_option linter.all false
namespace Go.Proofs
open Go.Eng Go.RowKit Go.MapKept
open Classical
set_option linter.unusedVariables false
set_option maxRecDepth 100000
set_option maxHeartbeats 4000000
def shF (R : List UInt8 × Int × Int) : List UInt8 × Int × Int := (R.1, if R.2.2 = 0 then R.2.1 else R.2.1 + 1, R.2.2)
theorem plc_nil {w : ByteArray} (hw : w ≠ noB) (all : List Ln) : plcF w 0 (nilL :: all) = plcF w 0 all := by
  rw [plcF, if_neg (fun h => hw (by rw [← h]; rfl))]
  rfl
theorem lnB_nil (all : List Ln) (l : Ln) : ∀ k, lnB (nilL :: all) l k = lnB all l k
  | 0 => rfl
  | k + 1 => by
    have e : numAt (nilL :: all) l k = numAt all l k := by
      unfold numAt
      by_cases h : l.nam ≠ noB ∧ k + 1 = l.nums.length
      · rw [if_pos h, if_pos h, plc_nil h.1]
      · rw [if_neg h, if_neg h]
    rw [lnB, lnB, lnB_nil all l k, e]
theorem allB_nil (all : List Ln) : ∀ r, allB (nilL :: all) r = allB all r
  | [] => rfl
  | l :: r => by
    have ih := allB_nil all r
    unfold allB at ih ⊢
    rw [List.flatMap_cons, List.flatMap_cons, ih, lnB_nil]
theorem nms_nil (all : List Ln) : ∀ (r : List Ln) (k : Nat), asP (nmsA (nilL :: all) (k + 1) r) = shF (asP (nmsA all k r))
  | [], k => by
    rw [nmsA, nmsA]
    show (allB (nilL :: all) (nilL :: all), (0 : Int), (0 : Int)) = (allB all all, (0 : Int), (0 : Int))
    have : allB (nilL :: all) (nilL :: all) = allB (nilL :: all) all := rfl
    rw [this, allB_nil]
  | l :: r, k => by
    rw [nmsA, nmsA]
    by_cases h : l.nam ≠ noB ∧ plcF l.nam 0 all < 0
    · rw [if_pos (show l.nam ≠ noB ∧ plcF l.nam 0 (nilL :: all) < 0 from ⟨h.1, by rw [plc_nil h.1]; exact h.2⟩), if_pos h]
      show (([] : List UInt8), ((k + 1 : Nat) : Int) + 1, (14 : Int)) = ([], (k : Int) + 1 + 1, 14)
      rw [show ((k + 1 : Nat) : Int) = (k : Int) + 1 by omega]
    · rw [if_neg (fun h2 : l.nam ≠ noB ∧ plcF l.nam 0 (nilL :: all) < 0 => h ⟨h2.1, by rw [← plc_nil h2.1]; exact h2.2⟩), if_neg h]
      exact nms_nil all r (k + 1)
theorem lns_nil : ∀ (r : List (List UInt8)) (acc : List Ln) (n : Int), asP (lnsA (nilL :: acc) n r) = shF (asP (lnsA acc n r))
  | [], acc, n => by
    rw [lnsA, lnsA, nmsA, if_neg (fun h => h.1 rfl)]
    exact nms_nil acc acc 0
  | x :: r, acc, n => by
    have ec : (((nilL :: acc).length : Nat) : Int) + 1 = (acc.length : Int) + 1 + 1 := by rw [List.length_cons]; omega
    rw [lnsA, lnsA, ec]
    by_cases h1 : (lnF x).bad = true
    · rw [if_pos h1, if_pos h1]
      rfl
    · rw [if_neg h1, if_neg h1]
      by_cases h2 : (lnF x).lab ≠ noB ∧ 0 ≤ plcF (lnF x).lab 0 acc
      · rw [if_pos (show (lnF x).lab ≠ noB ∧ 0 ≤ plcF (lnF x).lab 0 (nilL :: acc) from ⟨h2.1, by rw [plc_nil h2.1]; exact h2.2⟩), if_pos h2]
        rfl
      · rw [if_neg (fun h3 : (lnF x).lab ≠ noB ∧ 0 ≤ plcF (lnF x).lab 0 (nilL :: acc) => h2 ⟨h3.1, by rw [← plc_nil h3.1]; exact h3.2⟩), if_neg h2]
        by_cases h4 : 1024 < n + szF (lnF x)
        · rw [if_pos h4, if_pos h4]
          rfl
        · rw [if_neg h4, if_neg h4]
          exact lns_nil r (acc ++ [lnF x]) (n + szF (lnF x))
theorem lns_skip {x : List UInt8} (hx : lnF x = nilL) (r : List (List UInt8)) (acc : List Ln) {n : Int} (hn : n ≤ 1024) : lnsA acc n (x :: r) = lnsA (acc ++ [nilL]) n r := by
  have hz : szF nilL = 0 := rfl
  rw [lnsA, hx, if_neg (by decide), if_neg (fun h => h.1 rfl), hz, Int.add_zero, if_neg (by omega)]
theorem asm_shift {u : List UInt8} (hu : (10 : UInt8) ∉ u) (s : List UInt8) : asmF (35 :: u ++ 10 :: 10 :: s) = shF (shF (asmF s)) := by
  have h35 : (10 : UInt8) ∉ 35 :: u := by
    intro h
    rcases List.mem_cons.1 h with h | h
    · exact absurd h (by decide)
    · exact hu h
  have e1 : splL 10 (35 :: u ++ 10 :: 10 :: s) = (35 :: u) :: [] :: splL 10 s := by
    have a1 := spl_app h35 (10 :: s)
    have a2 := spl_app (c := 10) (w := []) (by simp) s
    rw [List.nil_append] at a2
    unfold splL
    rw [a1, a2]
  show asP (linesF _) = shF (shF (asP (linesF s)))
  unfold linesF
  rw [e1, lns_skip (if_pos (.inr rfl)) _ _ (by decide), lns_skip (if_pos (.inl rfl)) _ _ (by decide)]
  show asP (lnsA [nilL, nilL] 0 _) = _
  rw [lns_nil, lns_nil]
theorem nms_ln (all : List Ln) : ∀ (r : List Ln) (k : Nat), 0 ≤ (nmsA all k r).2.1 ∧ (nmsA all k r).2.1 ≤ k + r.length
  | [], k => by rw [nmsA]; simp
  | l :: r, k => by
    rw [nmsA, List.length_cons]
    split
    · dsimp only; omega
    · have := nms_ln all r (k + 1); omega
theorem lns_ln : ∀ (r : List (List UInt8)) (acc : List Ln) (n : Int), 0 ≤ (lnsA acc n r).2.1 ∧ (lnsA acc n r).2.1 ≤ acc.length + r.length
  | [], acc, n => by
    rw [lnsA]
    have := nms_ln acc acc 0
    simp only [List.length_nil]
    omega
  | x :: r, acc, n => by
    rw [lnsA, List.length_cons]
    split
    · dsimp only; omega
    · split
      · dsimp only; omega
      · split
        · dsimp only; omega
        · have := lns_ln r (acc ++ [lnF x]) (n + szF (lnF x))
          rw [List.length_append] at this
          simp only [List.length_cons, List.length_nil] at this
          omega
theorem asm_ln (s : ByteArray) : (0 ≤ (asmF s.data.toList).2.1 ∧ (asmF s.data.toList).2.1 ≤ s.size + 1) ∧ ((asmF s.data.toList).2.2 = 0 → (asmF s.data.toList).2.1 = 0) := by
  have h1 := lns_ln (splL 10 s.data.toList) [] 0
  have h2 := (spl_sz 10 s).2.1
  change 0 ≤ (linesF s.data.toList).2.1 ∧ (linesF s.data.toList).2.1 ≤ _ at h1
  unfold asmF
  split
  · exact ⟨⟨Int.le_refl 0, by dsimp only; omega⟩, fun _ => rfl⟩
  · rename_i h
    refine ⟨⟨h1.1, ?_⟩, fun h3 => absurd h3 h⟩
    have := h1.2
    simp only [List.length_nil] at this
    dsimp only
    omega
theorem nl_step {t : ByteArray} {k : Nat} (hk : k < t.size) : bsL (35 :: t.data.toList.take k) ++ t.extract k (k + 1) = bsL (35 :: t.data.toList.take (k + 1)) := by
  refine str_ext ?_
  rw [append_list, ext_one hk, bsL_list, bsL_list, List.take_add_one, List.getElem?_eq_getElem (by rw [size_list]; exact hk), sAt_get hk]
  rfl
theorem nl_not {t : ByteArray} {k : Nat} (hk : k < t.size) (h : (10 : UInt8) ∉ t.data.toList.take k) (h10 : ¬ ((sAt t k).toNat : Int) = 10) : (10 : UInt8) ∉ t.data.toList.take (k + 1) := by
  rw [List.take_add_one, List.getElem?_eq_getElem (by rw [size_list]; exact hk), sAt_get hk]
  intro hm
  rcases List.mem_append.1 hm with hm | hm
  · exact h hm
  · have : (10 : UInt8) = sAt t k := by simpa using hm
    exact h10 (by rw [← this]; rfl)
theorem Tryd.asmShiftsW (s t B : ByteArray) (l1 l2 e : Int) (L : List HP) (hM : Tryd.Mx L) (hs : s.size ≤ 2000) (ht : t.size ≤ 100) (hl : 0 ≤ l1 ∧ l1 ≤ 10000) (he : (e = 0 ∧ l1 = 0 ∧ l2 = 0) ∨ (e ≠ 0 ∧ l2 = l1 + 2))
    (h1 : ∀ L, Tryd.Mx L → Con Tryd.prog 8 [.string s] L (Is (.tuple #[.string B, .int .i64 l1, .int .i64 e]) L))
    (h2 : ∀ u L, u.length ≤ 100 → (10 : UInt8) ∉ u → Tryd.Mx L → Con Tryd.prog 8 [.string (bsL (35 :: u) ++ ⟨#[10, 10]⟩ ++ s)] L (Is (.tuple #[.string B, .int .i64 l2, .int .i64 e]) L)) :
    Con Tryd.prog 4 [.string s, .string t] L (Is (.bool true) L) := by
  have hlv := fun L h => Tryd.asmLive L h
  have hl2 := size_list t
  refine con_of Tryd.tysOk Tryd.func4 rfl rfl ?_
  conv => whnf
  repeat' (first | ((with_reducible refine Br.ff ?_); conv => whnf) | ((with_reducible refine Br.df ?_ ?_); (focus (first | assumption | omega)); conv => whnf))
  conv => whnf
  refine Lp.by2 Tryd.tysOk [6, 5] (fun (k : Nat) (x : ByteArray) => [.int .i64 k, .string x]) (fun k x => L) (fun k x => (k ≤ t.size ∧ x.size = k + 1) ∧ (x = bsL (35 :: t.data.toList.take k) ∧ (10 : UInt8) ∉ t.data.toList.take k)) (fun k x => t.size - k) (0) ((⟨#[35]⟩ : ByteArray)) (by kernel_rfl) (by (exact Ent.rfl)) (⟨⟨by omega, by decide⟩, ⟨by rw [List.take_zero], by simp⟩⟩) ?_
  rintro k x ⟨⟨g1, g2⟩, g3, g4⟩
  conv => whnf
  repeat (intro _; conv => whnf)
  have hx : ∀ L, Tryd.Mx L → Con Tryd.prog 8 [.string (x ++ ⟨#[10, 10]⟩ ++ s)] L (Is (.tuple #[.string B, .int .i64 l2, .int .i64 e]) L) := fun L h => by
    rw [g3]
    exact h2 _ L (by rw [List.length_take]; omega) g4 h
  clear h2
  have z0 : (⟨#[10, 10]⟩ : ByteArray).size = 2 := rfl
  have z1 : (x ++ (⟨#[10, 10]⟩ : ByteArray)).size = k + 3 := by rw [app_size, g2, z0]
  have z2 : (t.extract (k : Int).toNat ((k : Int) + 1).toNat).size ≤ t.size := by rw [ByteArray.size_extract]; omega
  by_cases hk : k < t.size
  · by_cases h10 : ((sAt t k).toNat : Int) = 10
    · clear g3 g4
      rcases he with ⟨rfl, rfl, rfl⟩ | ⟨he, rfl⟩
      · conv => whnf
        repeat' (first
          | (first | ((with_reducible refine Br.tt ?_); conv => whnf) | ((with_reducible refine Br.dt ?_ ?_); (focus (first | assumption | omega)); conv => whnf) | ((with_reducible refine Br.ndf ?_ ?_); (focus (first | assumption | omega)); conv => whnf) | ((with_reducible refine Br.yes ?_ ?_); (focus (first | (simp; done) | (simp; omega))); conv => whnf))
          | ((with_reducible refine Nd.mk ?_ ?_); (focus (first | omega | rfl | assumption | (simp; done))); conv => whnf)
          | ((with_reducible refine SIx.nat ?_ ?_); (focus (omega)); conv => whnf)
          | (first | ((with_reducible refine (?_ : Cl _ 8 _ _ _ _)); (first | refine Cl.is (h1 _ (by ((repeat (first | assumption | apply Tryd.mxCons | apply Tryd.mxApp)); done))) ?_ | refine Cl.is (hx _ (by ((repeat (first | assumption | apply Tryd.mxCons | apply Tryd.mxApp)); done))) ?_); conv => whnf) | ((with_reducible refine Cl.is (hlv _ (by ((repeat (first | assumption | apply Tryd.mxCons | apply Tryd.mxApp)); done))) ?_); conv => whnf)))
        all_goals first | (refine Is.ent ?_ ?_; (focus (exact Ent.rfl)); (exact Is.rfl)) | (exfalso; omega)
      · conv => whnf
        repeat' (first
          | (first | ((with_reducible refine Br.tt ?_); conv => whnf) | ((with_reducible refine Br.ff ?_); conv => whnf) | ((with_reducible refine Br.dt ?_ ?_); (focus (first | assumption | omega)); conv => whnf) | ((with_reducible refine Br.df ?_ ?_); (focus (first | assumption | omega)); conv => whnf) | ((with_reducible refine Br.ndt ?_ ?_); (focus (first | assumption | omega)); conv => whnf) | ((with_reducible refine Br.ndf ?_ ?_); (focus (first | assumption | omega)); conv => whnf) | ((with_reducible refine Br.yes ?_ ?_); (focus (first | (simp; done) | (simp; omega))); conv => whnf))
          | ((with_reducible refine Ar.i64 ?_ ?_); (focus omega); conv => whnf)
          | ((with_reducible refine Nd.mk ?_ ?_); (focus (first | omega | rfl | assumption | (simp; done))); conv => whnf)
          | ((with_reducible refine SIx.nat ?_ ?_); (focus (omega)); conv => whnf)
          | (first | ((with_reducible refine (?_ : Cl _ 8 _ _ _ _)); (first | refine Cl.is (h1 _ (by ((repeat (first | assumption | apply Tryd.mxCons | apply Tryd.mxApp)); done))) ?_ | refine Cl.is (hx _ (by ((repeat (first | assumption | apply Tryd.mxCons | apply Tryd.mxApp)); done))) ?_); conv => whnf) | ((with_reducible refine Cl.is (hlv _ (by ((repeat (first | assumption | apply Tryd.mxCons | apply Tryd.mxApp)); done))) ?_); conv => whnf)))
        all_goals first | (refine Is.ent ?_ ?_; (focus (exact Ent.rfl)); (exact Is.ttr (by first | assumption | omega))) | (exfalso; omega)
    · have q1 := nl_step hk
      rw [← g3] at q1
      have q2 := nl_not hk g4 h10
      have q3 : (x ++ t.extract k (k + 1)).size = k + 1 + 1 := by
        rw [q1, bsL_size, List.length_cons, List.length_take]
        omega
      clear h1 hx hlv g3 g4 he
      conv => whnf
      repeat' (first
        | (first | ((with_reducible refine Br.tt ?_); conv => whnf) | ((with_reducible refine Br.dt ?_ ?_); (focus (first | assumption | omega)); conv => whnf) | ((with_reducible refine Br.ndt ?_ ?_); (focus (first | assumption | omega)); conv => whnf))
        | ((with_reducible refine Ar.i64 ?_ ?_); (focus omega); conv => whnf)
        | ((with_reducible refine Nd.mk ?_ ?_); (focus (first | omega | rfl | assumption | (simp; done))); conv => whnf)
        | ((with_reducible refine SIx.nat ?_ ?_); (focus (omega)); conv => whnf)
        | ((with_reducible refine SubS.mid ?_ ?_); (focus (omega)); conv => whnf))
      all_goals first | (exfalso; omega) | exact ⟨k + 1, x ++ t.extract k (k + 1), by kernel_rfl, by (exact Ent.rfl), ⟨⟨by omega, q3⟩, ⟨q1, q2⟩⟩, by omega⟩
  · clear g3 g4
    rcases he with ⟨rfl, rfl, rfl⟩ | ⟨he, rfl⟩
    · conv => whnf
      repeat' (first
        | (first | ((with_reducible refine Br.tt ?_); conv => whnf) | ((with_reducible refine Br.ff ?_); conv => whnf) | ((with_reducible refine Br.dt ?_ ?_); (focus (first | assumption | omega)); conv => whnf) | ((with_reducible refine Br.df ?_ ?_); (focus (first | assumption | omega)); conv => whnf) | ((with_reducible refine Br.yes ?_ ?_); (focus (first | (simp; done) | (simp; omega))); conv => whnf))
        | ((with_reducible refine Nd.mk ?_ ?_); (focus (first | omega | rfl | assumption | (simp; done))); conv => whnf)
        | (first | ((with_reducible refine (?_ : Cl _ 8 _ _ _ _)); (first | refine Cl.is (h1 _ (by ((repeat (first | assumption | apply Tryd.mxCons | apply Tryd.mxApp)); done))) ?_ | refine Cl.is (hx _ (by ((repeat (first | assumption | apply Tryd.mxCons | apply Tryd.mxApp)); done))) ?_); conv => whnf) | ((with_reducible refine Cl.is (hlv _ (by ((repeat (first | assumption | apply Tryd.mxCons | apply Tryd.mxApp)); done))) ?_); conv => whnf)))
      all_goals first | (refine Is.ent ?_ ?_; (focus (exact Ent.rfl)); (exact Is.rfl)) | (exfalso; omega)
    · conv => whnf
      repeat' (first
        | (first | ((with_reducible refine Br.tt ?_); conv => whnf) | ((with_reducible refine Br.ff ?_); conv => whnf) | ((with_reducible refine Br.dt ?_ ?_); (focus (first | assumption | omega)); conv => whnf) | ((with_reducible refine Br.df ?_ ?_); (focus (first | assumption | omega)); conv => whnf) | ((with_reducible refine Br.ndt ?_ ?_); (focus (first | assumption | omega)); conv => whnf) | ((with_reducible refine Br.yes ?_ ?_); (focus (first | (simp; done) | (simp; omega))); conv => whnf))
        | ((with_reducible refine Ar.i64 ?_ ?_); (focus omega); conv => whnf)
        | ((with_reducible refine Nd.mk ?_ ?_); (focus (first | omega | rfl | assumption | (simp; done))); conv => whnf)
        | (first | ((with_reducible refine (?_ : Cl _ 8 _ _ _ _)); (first | refine Cl.is (h1 _ (by ((repeat (first | assumption | apply Tryd.mxCons | apply Tryd.mxApp)); done))) ?_ | refine Cl.is (hx _ (by ((repeat (first | assumption | apply Tryd.mxCons | apply Tryd.mxApp)); done))) ?_); conv => whnf) | ((with_reducible refine Cl.is (hlv _ (by ((repeat (first | assumption | apply Tryd.mxCons | apply Tryd.mxApp)); done))) ?_); conv => whnf)))
      all_goals first | (refine Is.ent ?_ ?_; (focus (exact Ent.rfl)); (exact Is.ttr (by first | assumption | omega))) | (exfalso; omega)
theorem Tryd.asmShiftsLaw (s t : ByteArray) (L : List HP) (hM : Tryd.Mx L) : Con Tryd.prog 4 [.string s, .string t] L (Is (.bool true) L) := by
  have hlv := fun L h => Tryd.asmLive L h
  by_cases h3 : s.size ≤ 2000 ∧ t.size ≤ 100
  · obtain ⟨⟨l1, l2⟩, l3⟩ := asm_ln s
    refine Tryd.asmShiftsW s t (bsL (asmF s.data.toList).1) (asmF s.data.toList).2.1 (if (asmF s.data.toList).2.2 = 0 then (asmF s.data.toList).2.1 else (asmF s.data.toList).2.1 + 1 + 1) (asmF s.data.toList).2.2 L hM h3.1 h3.2 ⟨l1, by omega⟩ ?_ (fun L h => Tryd.asmAssembleF s L (by omega) h) (fun u L hu hn h => ?_)
    · by_cases h0 : (asmF s.data.toList).2.2 = 0
      · rw [if_pos h0]
        exact .inl ⟨h0, l3 h0, l3 h0⟩
      · rw [if_neg h0]
        exact .inr ⟨h0, by omega⟩
    · have e1 : (bsL (35 :: u) ++ ⟨#[10, 10]⟩ ++ s).data.toList = 35 :: u ++ 10 :: 10 :: s.data.toList := by
        rw [append_list, append_list, bsL_list, List.append_assoc]
        rfl
      have e2 : (bsL (35 :: u) ++ ⟨#[10, 10]⟩ ++ s).size ≤ 60000 := by
        rw [app_size, app_size, bsL_size, List.length_cons, show (⟨#[10, 10]⟩ : ByteArray).size = 2 from rfl]
        omega
      have := Tryd.asmAssembleF _ L e2 h
      rw [e1, asm_shift hn] at this
      have e3 : (shF (shF (asmF s.data.toList))).2.1 = if (asmF s.data.toList).2.2 = 0 then (asmF s.data.toList).2.1 else (asmF s.data.toList).2.1 + 1 + 1 := by
        unfold shF
        dsimp only
        split <;> rfl
      rw [e3] at this
      exact this
  · by_cases h4 : s.size ≤ 2000
    · have h5 : ¬ t.size ≤ 100 := fun h => h3 ⟨h4, h⟩
      clear h3
      refine con_of Tryd.tysOk Tryd.func4 rfl rfl ?_
      conv => whnf
      repeat' (first
        | (first | ((with_reducible refine Br.ff ?_); conv => whnf) | ((with_reducible refine Br.dt ?_ ?_); (focus (first | assumption | omega)); conv => whnf) | ((with_reducible refine Br.df ?_ ?_); (focus (first | assumption | omega)); conv => whnf))
        | ((with_reducible refine Cl.is (hlv _ (by ((repeat (first | assumption | apply Tryd.mxCons | apply Tryd.mxApp)); done))) ?_); conv => whnf))
      all_goals first | (refine Is.ent ?_ ?_; (focus (exact Ent.rfl)); (exact Is.rfl)) | (exfalso; omega)
    · clear h3
      refine con_of Tryd.tysOk Tryd.func4 rfl rfl ?_
      conv => whnf
      repeat' (first
        | (first | ((with_reducible refine Br.tt ?_); conv => whnf) | ((with_reducible refine Br.dt ?_ ?_); (focus (first | assumption | omega)); conv => whnf))
        | ((with_reducible refine Cl.is (hlv _ (by ((repeat (first | assumption | apply Tryd.mxCons | apply Tryd.mxApp)); done))) ?_); conv => whnf))
      all_goals first | (refine Is.ent ?_ ?_; (focus (exact Ent.rfl)); (exact Is.rfl)) | (exfalso; omega)
end Go.Proofs
