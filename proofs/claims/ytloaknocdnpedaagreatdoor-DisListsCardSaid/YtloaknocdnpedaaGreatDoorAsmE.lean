/- The document's lines of a program's text: contracts. -/
import Derived.Test.YtloaknocdnpedaaGreatDoorAsmD
set_option linter.all false
namespace Go.Proofs
open Go.Eng
open Classical
set_option linter.unusedVariables false
set_option maxRecDepth 100000
set_option maxHeartbeats 4000000
def sumI : List Int → Int
  | [] => 0
  | x :: l => x + sumI l
theorem sumI_app (l r : List Int) : sumI (l ++ r) = sumI l + sumI r := by
  induction l with
  | nil => simp [sumI]
  | cons x l ih => simp only [List.cons_append, sumI, ih]; omega
theorem sumI_take {l : List Int} {k : Nat} (hk : k < l.length) : sumI (l.take (k + 1)) = sumI (l.take k) + l.getD k 0 := by
  rw [List.take_add_one, List.getElem?_eq_getElem hk, sumI_app]
  have e : l.getD k 0 = l[k] := by simp [List.getD, hk]
  rw [e]
  simp [sumI]
abbrev szF (l : Ln) : Int := sumI l.szs
theorem sum_bd {l : List Int} (h : ∀ x ∈ l, x = 1 ∨ x = 2) : 0 ≤ sumI l ∧ sumI l ≤ 2 * l.length := by
  induction l with
  | nil => simp [sumI]
  | cons x l ih =>
    have h1 := h x (by simp)
    have h2 := ih (fun y hy => h y (by simp [hy]))
    simp only [sumI, List.length_cons]
    omega
theorem sz_bd {l : Ln} (h : LnOk l) : 0 ≤ szF l ∧ szF l ≤ 6 := by
  have h1 := sum_bd h.sz
  have h2 := h.len
  have h3 := h.most
  show 0 ≤ sumI l.szs ∧ sumI l.szs ≤ 6
  omega
theorem Tryz.refSize (v : LnV) (L : List HP) (hv : LnOk v.l) (hr : Rd numE L v.a' v.l.szs) : Con Tryz.prog 36 [lvV v] L (Is (qI (szF v.l)) L) := by
  have h2 := hv.len
  have h3 := hv.most
  have h4 := hv.sz
  unfold szF
  generalize hn : v.l.szs = xs at *
  have hlt : xs.length ≤ 3 := by omega
  clear hv h2 h3
  obtain ⟨⟨lab, nums, szs, nam, bad⟩, a, c, a', c'⟩ := v
  dsimp only at hn hr
  subst hn
  refine con_of Tryz.tysOk Tryz.func36 rfl rfl ?_
  conv => whnf
  repeat' ((with_reducible refine Nc.go' (fun _ => ?_)); conv => whnf)
  rename_i b1
  conv => whnf
  refine Lp.by2 Tryz.tysOk [4, 3] (fun (k : Nat) (n : Int) => [.int .i64 k, .int .i64 n]) (fun k n => ptc b1 59 [.string lab, .slice a nums.length c, .slice a' szs.length c', .string nam, .bool bad] :: L) (fun k n => k ≤ szs.length ∧ n = sumI (szs.take k) ∧ 0 ≤ n ∧ n ≤ 2 * k) (fun k n => szs.length - k) (0) (0) (by kernel_rfl) (by (exact Ent.rfl)) (⟨by omega, rfl, by omega, by omega⟩) ?_
  rintro k n ⟨g1, g2, g3, g4⟩
  conv => whnf
  repeat (intro _; conv => whnf)
  by_cases hk : k < szs.length
  · have hs := h4 _ (getD_mem (d := numE.d) hk)
    have e := sumI_take hk
    change sumI (szs.take (k + 1)) = sumI (szs.take k) + szs.getD k numE.d at e
    rw [← g2] at e
    clear h4 g2
    conv => whnf
    repeat' (first
      | ((with_reducible refine Br.dt ?_ ?_); (focus (first | assumption | omega)); conv => whnf)
      | ((with_reducible refine Ar.i64 ?_ ?_); (focus omega); conv => whnf)
      | ((with_reducible refine Ix.ad ?_ ?_ ?_); (focus (exact Rd.ad (by assumption))); (focus (omega)); conv => whnf)
      | (first | ((with_reducible apply Ld.rdk0); (focus ((repeat (first | assumption | apply Rd.cons)); done)); (focus rfl); (focus (omega)); (focus rfl); conv => whnf) | (refine Ld.at 0 rfl rfl ?_; conv => whnf)))
    all_goals first | (exfalso; omega) | exact ⟨k + 1, n + szs.getD k numE.d, by kernel_rfl, by (exact Ent.rfl), ⟨by omega, e.symm, by omega, by omega⟩, by omega⟩
  · have e0 : k = szs.length := by omega
    subst e0
    rw [List.take_length] at g2
    subst g2
    clear h4
    conv => whnf
    repeat' (first
      | ((with_reducible refine Br.df ?_ ?_); (focus (first | assumption | omega)); conv => whnf)
      | (refine Ld.at 0 rfl rfl ?_; conv => whnf))
    all_goals first | (refine Is.ent ?_ ?_; (focus (refine FEnt.ent ?_; (repeat (first | exact FEnt.rfl | refine FEnt.drop ?_)); done)); (exact Is.rfl)) | (exfalso; omega)
/-- a label's place -/
noncomputable def plcF (w : ByteArray) : Int → List Ln → Int
  | _, [] => -1
  | n, l :: r => if l.lab = w then n else plcF w (n + szF l) r
/-- the lines' rows stand -/
structure LRd (L : List HP) (lvs : List LnV) : Prop where
  n : ∀ i, i < lvs.length → Rd numE L (lvs.getD i lvE.d).a (lvs.getD i lvE.d).l.nums
  s : ∀ i, i < lvs.length → Rd numE L (lvs.getD i lvE.d).a' (lvs.getD i lvE.d).l.szs
theorem LRd.ent {L M : List HP} {lvs : List LnV} (h : LRd L lvs) (k : Ent M L) : LRd M lvs := ⟨fun i hi => (h.n i hi).ent k, fun i hi => (h.s i hi).ent k⟩
theorem LRd.hd {A : HP} {L : List HP} {lvs : List LnV} (h : LRd [A] lvs) : LRd (A :: L) lvs := h.ent fun w s => s.sub (by simp)
theorem LRd.cons {A : HP} {L : List HP} {lvs : List LnV} (h : LRd L lvs) : LRd (A :: L) lvs := h.ent fun w s => s.tail
theorem LRd.app {M L : List HP} {lvs : List LnV} (h : LRd L lvs) : LRd (M ++ L) lvs := h.ent fun w s => s.right
abbrev lnsV (lvs : List LnV) : List Ln := lvs.map (·.l)
theorem lns_snoc (ys : List LnV) (y : LnV) : lnsV (ys ++ [y]) = lnsV ys ++ [y.l] := by simp [lnsV]
theorem lns_at {lvs : List LnV} {k : Nat} (hk : k < lvs.length) : (lnsV lvs).drop k = (lvs.getD k lvE.d).l :: (lnsV lvs).drop (k + 1) := by
  rw [List.drop_eq_getElem_cons (by simpa using hk)]
  congr 1
  simp [List.getD, hk]
theorem Tryz.refPlace (a : Option Addr) (c : Nat) (lvs : List LnV) (w : ByteArray) (L : List HP) (hN : lvs.length ≤ 100000) (hr : Rd lvE L a lvs) (hR : LRd L lvs) (hok : ∀ i, i < lvs.length → LnOk (lvs.getD i lvE.d).l) :
    Con Tryz.prog 18 [.slice a lvs.length c, .string w] L (Is (qI (plcF w 0 (lnsV lvs))) L) := by
  refine con_of Tryz.tysOk Tryz.func18 rfl rfl ?_
  conv => whnf
  repeat' skip
  conv => whnf
  refine Lp.by2 Tryz.tysOk [6, 5] (fun (k : Nat) (n : Int) => [.int .i64 k, .int .i64 n]) (fun k n => L) (fun k n => (k ≤ lvs.length ∧ 0 ≤ n ∧ n ≤ 6 * k) ∧ plcF w n ((lnsV lvs).drop k) = plcF w 0 (lnsV lvs)) (fun k n => lvs.length - k) (0) (0) (by kernel_rfl) (by (exact Ent.rfl)) (⟨by omega, rfl⟩) ?_
  rintro k n ⟨⟨g1, g2, g3⟩, g4⟩
  conv => whnf
  repeat (intro _; conv => whnf)
  by_cases hk : k < lvs.length
  · have ho := hok k hk
    have hb := sz_bd ho
    have hsz := fun L h => Tryz.refSize (lvs.getD k lvE.d) L ho h
    have hrs := hR.s k hk
    rw [lns_at hk, plcF] at g4
    by_cases he : (lvs.getD k lvE.d).l.lab = w
    · rw [if_pos he] at g4
      rw [← g4]
      clear hok hR g4 hsz
      conv => whnf
      repeat' (first
        | ((with_reducible refine Br.dt ?_ ?_); (focus (first | assumption | omega)); conv => whnf)
        | ((with_reducible refine Ix.ad ?_ ?_ ?_); (focus (exact Rd.ad (by assumption))); (focus (omega)); conv => whnf)
        | ((with_reducible apply Ld.rdk0); (focus ((repeat (assumption)); done)); (focus rfl); (focus (omega)); (focus rfl); conv => whnf))
      all_goals first | (refine Is.ent ?_ ?_; (focus (exact Ent.rfl)); (exact Is.rfl)) | (exfalso; omega)
    · rw [if_neg he] at g4
      clear hok hR
      conv => whnf
      repeat' (first
        | (first | ((with_reducible refine Br.dt ?_ ?_); (focus (first | assumption | omega)); conv => whnf) | ((with_reducible refine Br.df ?_ ?_); (focus (first | assumption | omega)); conv => whnf))
        | ((with_reducible refine Ar.i64 ?_ ?_); (focus omega); conv => whnf)
        | ((with_reducible refine Ix.ad ?_ ?_ ?_); (focus (exact Rd.ad (by assumption))); (focus (omega)); conv => whnf)
        | ((with_reducible apply Ld.rdk0); (focus ((repeat (assumption)); done)); (focus rfl); (focus (omega)); (focus rfl); conv => whnf)
        | ((with_reducible apply LdN.rdk); (focus ((repeat (assumption)); done)); (focus rfl); (focus rfl); (focus (omega)); conv => whnf)
        | ((with_reducible refine Cl.is (hsz _ (by ((repeat (assumption)); done))) ?_); conv => whnf))
      all_goals first | (exfalso; omega) | exact ⟨k + 1, n + szF (lvs.getD k lvE.d).l, by kernel_rfl, by (exact Ent.rfl), ⟨⟨by omega, by omega, by omega⟩, g4⟩, by omega⟩
  · rw [List.drop_eq_nil_of_le (by simpa using (by omega : lvs.length ≤ k)), plcF] at g4
    rw [← g4]
    clear hok hR g4
    conv => whnf
    repeat' ((with_reducible refine Br.df ?_ ?_); (focus (first | assumption | omega)); conv => whnf)
    all_goals first | (refine Is.ent ?_ ?_; (focus (exact Ent.rfl)); (exact Is.rfl)) | (exfalso; omega)
/-! the lines of a text, or the first one that is wrong -/
noncomputable def nmsA (all : List Ln) : Nat → List Ln → List Ln × Int × Int
  | _, [] => (all, 0, 0)
  | k, l :: r => if l.nam ≠ noB ∧ plcF l.nam 0 all < 0 then (all, (k : Int) + 1, 14) else nmsA all (k + 1) r
noncomputable def lnsA : List Ln → Int → List (List UInt8) → List Ln × Int × Int
  | acc, _, [] => nmsA acc 0 acc
  | acc, n, l :: r => if (lnF l).bad = true then (acc, (acc.length : Int) + 1, 3)
    else if (lnF l).lab ≠ noB ∧ 0 ≤ plcF (lnF l).lab 0 acc then (acc, (acc.length : Int) + 1, 14)
    else if 1024 < n + szF (lnF l) then (acc, (acc.length : Int) + 1, 4)
    else lnsA (acc ++ [lnF l]) (n + szF (lnF l)) r
noncomputable def linesF (s : List UInt8) : List Ln × Int × Int := lnsA [] 0 (splL 10 s)
structure LsV where
  A : HP
  a : Option Addr
  c : Nat
  v : List LnV
structure LsW (y : LsV) (ls : List Ln) : Prop where
  e : lnsV y.v = ls
  c : y.v.length ≤ y.c
  a : Ad y.a y.v.length
  r : LRd [y.A] y.v
  ok : ∀ l ∈ ls, LnOk l
abbrev Tryz.LsP (R : List Ln × Int × Int) (L : List HP) := Exs (fun y : LsV => .tuple #[.slice y.a y.v.length y.c, qI R.2.1, qI R.2.2]) (fun y => own lvE 59 y.a y.c y.v :: y.A :: L) (fun y => LsW y R.1)
theorem LRd.snoc {A : HP} {lvs : List LnV} {y : LnV} {t : TypeId} (h : LRd [A] lvs) (hw : LnW y) : LRd [star A (star (own numE t y.a y.c y.l.nums) (own numE t y.a' y.c' y.l.szs))] (lvs ++ [y]) := by
  have e1 : ∀ i, i < lvs.length → (lvs ++ [y]).getD i lvE.d = lvs.getD i lvE.d := fun i hi => by simp [List.getD, List.getElem?_append_left hi]
  have e2 : (lvs ++ [y]).getD lvs.length lvE.d = y := by simp [List.getD]
  refine ⟨fun i hi => ?_, fun i hi => ?_⟩
  · by_cases h1 : i < lvs.length
    · rw [e1 i h1]
      exact (h.n i h1).ent ent_star1
    · have : i = lvs.length := by rw [List.length_append] at hi; simp only [List.length_cons, List.length_nil] at hi; omega
      subst this
      rw [e2]
      exact ((Rd.own 0 rfl hw.na).ent ent_star1).ent ent_star2
  · by_cases h1 : i < lvs.length
    · rw [e1 i h1]
      exact (h.s i h1).ent ent_star1
    · have : i = lvs.length := by rw [List.length_append] at hi; simp only [List.length_cons, List.length_nil] at hi; omega
      subst this
      rw [e2]
      exact ((Rd.own 0 rfl hw.sa).ent ent_star2).ent ent_star2
theorem nl_at {qs : List (List UInt8)} {k : Nat} (hk : k < qs.length) : (qs.map bsL).getD k strE.d = bsL (qs.getD k []) := by
  simp [List.getD, hk]
theorem nl_drop {qs : List (List UInt8)} {k : Nat} (hk : k < qs.length) : qs.drop k = qs.getD k [] :: qs.drop (k + 1) := by
  rw [List.drop_eq_getElem_cons hk]
  simp [List.getD, hk]
theorem spl_sz (c : UInt8) (s : ByteArray) : 1 ≤ (splL c s.data.toList).length ∧ (splL c s.data.toList).length ≤ s.size + 1 ∧ ∀ k, ((splL c s.data.toList).getD k []).length ≤ s.size := by
  have hl := size_list s
  obtain ⟨h1, h2, h3⟩ := spl_len c s.data.toList
  refine ⟨by simp [splL], by simp only [splL, List.length_cons]; omega, fun k => ?_⟩
  by_cases hk : k < (splL c s.data.toList).length
  · have hm : (splL c s.data.toList)[k] ∈ splL c s.data.toList := List.getElem_mem _
    have e : (splL c s.data.toList).getD k [] = (splL c s.data.toList)[k] := by simp [List.getD, hk]
    rw [e]
    rcases List.mem_cons.1 hm with h | h
    · rw [h]; omega
    · have := h2 _ h; omega
  · rw [List.getD_eq_getElem?_getD, List.getElem?_eq_none (by omega)]
    exact Nat.zero_le _
theorem nms_fst (all : List Ln) : ∀ (r : List Ln) (k : Nat), (nmsA all k r).1 = all
  | [], k => rfl
  | l :: r, k => by
    rw [nmsA]
    split
    · rfl
    · exact nms_fst all r (k + 1)
theorem lns_ok : ∀ (r : List (List UInt8)) (acc : List Ln) (n : Int), (∀ l ∈ acc, LnOk l) → ∀ l ∈ (lnsA acc n r).1, LnOk l
  | [], acc, n, h => by rw [lnsA, nms_fst]; exact h
  | x :: r, acc, n, h => by
    rw [lnsA]
    split
    · exact h
    · split
      · exact h
      · split
        · exact h
        · exact lns_ok r _ _ (fun l hl => by
            rcases List.mem_append.1 hl with hl | hl
            · exact h l hl
            · rw [List.mem_singleton.1 hl]; exact ok_ln x)
theorem okAt {lvs : List LnV} {ls : List Ln} (e : lnsV lvs = ls) (h : ∀ l ∈ ls, LnOk l) : ∀ i, i < lvs.length → LnOk (lvs.getD i lvE.d).l := fun i hi => h _ (by
  rw [← e]
  exact List.mem_map.2 ⟨_, getD_mem hi, rfl⟩)
abbrev Tryz.LnP4 (x : Ln) (L : List HP) := Exs (fun q : Option Addr × Nat × Option Addr × Nat => lvV ⟨x, q.1, q.2.1, q.2.2.1, q.2.2.2⟩) (fun q => own numE 3 q.1 q.2.1 x.nums :: own numE 3 q.2.2.1 q.2.2.2 x.szs :: L) (fun q => LnW ⟨x, q.1, q.2.1, q.2.2.1, q.2.2.2⟩)
theorem Tryz.lnp4 {x : Ln} {L : List HP} {v : Value} {L' : List HP} (h : Tryz.LnP x L v L') : Tryz.LnP4 x L v L' := by
  obtain ⟨⟨l, a, c, a', c'⟩, ⟨e, hw⟩, hv, hE⟩ := h
  dsimp only at e
  subst e
  exact Exs.of ((a, c, a', c') : Option Addr × Nat × Option Addr × Nat) hE hw hv
theorem Tryz.refLines (s : ByteArray) (L : List HP) (hs : s.size ≤ 90000) : Con Tryz.prog 17 [.string s] L (Tryz.LsP (linesF s.data.toList) L) := by
  obtain ⟨q1, q2, q3⟩ := spl_sz 10 s
  have hok0 := lns_ok (splL 10 s.data.toList) [] 0 (fun l hl => absurd hl (by simp))
  have hsp : ∀ L, Con Tryz.prog 34 [.string s, qB 10] L (New strE 9 ((splL 10 s.data.toList).map bsL) L) := fun L => Tryz.refSplit 10 s L (by omega)
  unfold linesF
  generalize hR : lnsA [] 0 (splL 10 s.data.toList) = R at *
  obtain ⟨lf, nf, ef⟩ := R
  dsimp only at hok0
  generalize splL 10 s.data.toList = qs at *
  have hwl : (qs.map bsL).length = qs.length := List.length_map _
  have hwa := fun k (hk : k < qs.length) => nl_at (qs := qs) hk
  generalize qs.map bsL = ws at *
  refine con_of Tryz.tysOk Tryz.func17 rfl rfl ?_
  conv => whnf
  repeat' (first
    | ((with_reducible refine Nc.go' (fun _ => ?_)); conv => whnf)
    | ((with_reducible refine Cl.new (hsp _) (fun _ _ _ _ => ?_)); conv => whnf))
  rename_i aw cw hcw hdw b13
  conv => whnf
  refine Lp.by3 Tryz.tysOk [8, 7, 6] (fun (k : Nat) (n : Int) (P : HP × Option Addr × Nat × List LnV) => [.int .i64 k, .int .i64 n, .slice P.2.1 P.2.2.2.length P.2.2.1]) (fun k n P => own lvE 59 P.2.1 P.2.2.1 P.2.2.2 :: P.1 :: own strE 9 aw cw ws :: L) (fun k n P => (k ≤ qs.length ∧ 0 ≤ n ∧ n ≤ 1024) ∧ lnsA (lnsV P.2.2.2) n (qs.drop k) = (lf, nf, ef) ∧ (P.2.2.2.length = k ∧ P.2.2.2.length ≤ P.2.2.1 ∧ Ad P.2.1 P.2.2.2.length) ∧ LRd [P.1] P.2.2.2 ∧ (∀ l ∈ lnsV P.2.2.2, LnOk l)) (fun k n P => qs.length - k) (0) (0) (((own numE 3 none 0 [], some ⟨b13, 0, none⟩, 0, []) : HP × Option Addr × Nat × List LnV)) (by kernel_rfl) (by (refine FEnt.ent ?_; (repeat (first | exact FEnt.rfl | (refine FEnt.own0 0 rfl ?_; (try simp only [List.eraseIdx_cons_zero, List.eraseIdx_cons_succ, List.eraseIdx_zero, List.tail_cons])) | refine FEnt.nil ?_)); done)) (⟨by omega, hR, ⟨rfl, by simp, fun _ => rfl⟩, ⟨fun i hi => by simp at hi, fun i hi => by simp at hi⟩, fun l hl => by simp at hl⟩) ?_
  rintro k n ⟨A, a, c, ys⟩ ⟨⟨g1, g2, g3⟩, g4, ⟨g5, g6, g7⟩, g8, g9⟩
  conv => whnf
  repeat (intro _; conv => whnf)
  dsimp only at g4 g5 g6 g7 g8 g9
  have hlk : ((lnsV ys).length : Int) = (k : Int) := by rw [List.length_map, g5]
  by_cases hk : k < qs.length
  · rw [nl_drop hk, lnsA] at g4
    have hq3 := q3 k
    have hrd := fun L => (Tryz.refRead20 (bsL (qs.getD k [])) L (by rw [bsL_size]; omega)).mono (fun _ _ h => Tryz.lnp4 h) (fun _ _ h => h)
    rw [← hwa k hk] at hrd
    have el : (ws.getD k strE.d).data.toList = qs.getD k [] := by rw [hwa k hk]
    rw [el] at hrd
    have hxo := ok_ln (qs.getD k [])
    have hpl := fun w L h h' => Tryz.refPlace a c ys w L (by omega) h h' (okAt rfl g9)
    clear q3 hwa hsp el hR q1
    generalize hx : lnF (qs.getD k []) = x at *
    obtain ⟨lab, nums, szs, nam, bad⟩ := x
    have hsb := sz_bd hxo
    dsimp only at g4 hxo hsb
    have hsz : ∀ a c a' c' L, Rd numE L a' szs → Con Tryz.prog 36 [.agg #[.string lab, .slice a nums.length c, .slice a' szs.length c', .string nam, .bool bad]] L (Is (qI (szF ⟨lab, nums, szs, nam, bad⟩)) L) := fun a c a' c' L h => Tryz.refSize ⟨⟨lab, nums, szs, nam, bad⟩, a, c, a', c'⟩ L hxo h
    generalize hz : szF ⟨lab, nums, szs, nam, bad⟩ = z at *
    cases bad with
    | true =>
      rw [if_pos rfl] at g4
      simp only [Prod.mk.injEq] at g4
      obtain ⟨rfl, rfl, rfl⟩ := g4
      rw [hlk]
      clear hok0 hpl hsz
      conv => whnf
      repeat' (first
        | (first | ((with_reducible refine Br.tt ?_); conv => whnf) | ((with_reducible refine Br.dt ?_ ?_); (focus (first | assumption | omega)); conv => whnf))
        | ((with_reducible refine Ar.i64 ?_ ?_); (focus omega); conv => whnf)
        | ((with_reducible refine Nd.mk ?_ ?_); (focus (first | omega | rfl | assumption | (simp; done))); conv => whnf)
        | ((with_reducible refine Nc.go' (fun _ => ?_)); conv => whnf)
        | ((with_reducible refine Ix.ad ?_ ?_ ?_); (focus (assumption)); (focus (omega)); conv => whnf)
        | (first | ((with_reducible apply Ld.rdk0); (focus ((repeat ((refine Rd.own 2 rfl ?_); (assumption))); done)); (focus rfl); (focus (omega)); (focus rfl); conv => whnf) | (refine Ld.at 0 rfl rfl ?_; conv => whnf))
        | (refine St.at 0 rfl (by first | exact Nat.le_of_ble_eq_true rfl | (simp; done)) rfl ?_; conv => whnf)
        | ((with_reducible refine Cl.exs (hrd _) (fun ⟨a6, c6, a7, c7⟩ ⟨w1, w2, w3, w4⟩ => ?_)); conv => whnf))
      all_goals first | (exfalso; omega) | exact Exs.of (⟨A, a, c, ys⟩ : LsV) (by (try dsimp only); (refine FEnt.ent ?_; (repeat (first | exact FEnt.rfl | (refine FEnt.at 3 rfl ?_; (try simp only [List.eraseIdx_cons_zero, List.eraseIdx_cons_succ, List.eraseIdx_zero, List.tail_cons])) | refine FEnt.drop ?_)); done)) ⟨rfl, g6, g7, g8, g9⟩ rfl
    | false =>
      rw [if_neg (by decide)] at g4
      by_cases h1 : lab ≠ noB ∧ 0 ≤ plcF lab 0 (lnsV ys)
      · rw [if_pos h1] at g4
        simp only [Prod.mk.injEq] at g4
        obtain ⟨rfl, rfl, rfl⟩ := g4
        obtain ⟨h1, h2⟩ := h1
        have h1 : ¬ lab = (⟨#[]⟩ : ByteArray) := h1
        rw [hlk]
        clear hok0 hsz
        conv => whnf
        repeat' (first
          | (first | ((with_reducible refine Br.tt ?_); conv => whnf) | ((with_reducible refine Br.ff ?_); conv => whnf) | ((with_reducible refine Br.dt ?_ ?_); (focus (first | assumption | omega)); conv => whnf) | ((with_reducible refine Br.ndt ?_ ?_); (focus (first | assumption | omega)); conv => whnf))
          | ((with_reducible refine Ar.i64 ?_ ?_); (focus omega); conv => whnf)
          | ((with_reducible refine Nd.mk ?_ ?_); (focus (first | omega | rfl | assumption | (simp; done))); conv => whnf)
          | ((with_reducible refine Nc.go' (fun _ => ?_)); conv => whnf)
          | ((with_reducible refine Ix.ad ?_ ?_ ?_); (focus (assumption)); (focus (omega)); conv => whnf)
          | (first | ((with_reducible apply Ld.rdk0); (focus ((repeat ((refine Rd.own 2 rfl ?_); (assumption))); done)); (focus rfl); (focus (omega)); (focus rfl); conv => whnf) | (refine Ld.at 0 rfl rfl ?_; conv => whnf))
          | (refine St.at 0 rfl (by first | exact Nat.le_of_ble_eq_true rfl | (simp; done)) rfl ?_; conv => whnf)
          | (first | ((with_reducible refine Cl.exs (hrd _) (fun ⟨a6, c6, a7, c7⟩ ⟨w1, w2, w3, w4⟩ => ?_)); conv => whnf) | ((with_reducible refine Cl.is (hpl lab _ (by ((repeat ((refine Rd.own 3 rfl ?_); (assumption))); done)) (by ((repeat (first | assumption | exact LRd.hd (by assumption) | apply LRd.cons | apply LRd.app)); done))) ?_); conv => whnf)))
        all_goals first | (exfalso; omega) | exact Exs.of (⟨A, a, c, ys⟩ : LsV) (by (try dsimp only); (refine FEnt.ent ?_; (repeat (first | exact FEnt.rfl | (refine FEnt.at 3 rfl ?_; (try simp only [List.eraseIdx_cons_zero, List.eraseIdx_cons_succ, List.eraseIdx_zero, List.tail_cons])) | refine FEnt.drop ?_)); done)) ⟨rfl, g6, g7, g8, g9⟩ rfl
      · rw [if_neg h1] at g4
        have hpb : lab = (⟨#[]⟩ : ByteArray) ∨ (¬ lab = (⟨#[]⟩ : ByteArray) ∧ plcF lab 0 (lnsV ys) < 0) := by
          by_cases hl : lab = noB
          · exact .inl hl
          · exact .inr ⟨hl, by have h5 : ¬ _ := fun h => h1 ⟨hl, h⟩; omega⟩
        clear h1
        by_cases h3 : 1024 < n + z
        · rw [if_pos h3] at g4
          simp only [Prod.mk.injEq] at g4
          obtain ⟨rfl, rfl, rfl⟩ := g4
          rw [hlk]
          clear hok0
          rcases hpb with h1 | ⟨h1, h2⟩
          · clear hpl
            conv => whnf
            repeat' (first
              | (first | ((with_reducible refine Br.ff ?_); conv => whnf) | ((with_reducible refine Br.dt ?_ ?_); (focus (first | assumption | omega)); conv => whnf) | ((with_reducible refine Br.ndf ?_ ?_); (focus (first | assumption | omega)); conv => whnf))
              | ((with_reducible refine Ar.i64 ?_ ?_); (focus omega); conv => whnf)
              | ((with_reducible refine Nd.mk ?_ ?_); (focus (first | omega | rfl | assumption | (simp; done))); conv => whnf)
              | ((with_reducible refine Nc.go' (fun _ => ?_)); conv => whnf)
              | ((with_reducible refine Ix.ad ?_ ?_ ?_); (focus (assumption)); (focus (omega)); conv => whnf)
              | (first | ((with_reducible apply Ld.rdk0); (focus ((repeat ((refine Rd.own 2 rfl ?_); (assumption))); done)); (focus rfl); (focus (omega)); (focus rfl); conv => whnf) | (refine Ld.at 0 rfl rfl ?_; conv => whnf))
              | (refine LdN.at 0 rfl (by first | exact Nat.le_of_ble_eq_true rfl | (simp; done)) ?_; conv => whnf)
              | (refine St.at 0 rfl (by first | exact Nat.le_of_ble_eq_true rfl | (simp; done)) rfl ?_; conv => whnf)
              | (first | ((with_reducible refine Cl.exs (hrd _) (fun ⟨a6, c6, a7, c7⟩ ⟨w1, w2, w3, w4⟩ => ?_)); conv => whnf) | ((with_reducible refine Cl.is (hsz _ _ _ _ _ (by ((repeat ((refine Rd.own 2 rfl ?_); (assumption))); done))) ?_); conv => whnf)))
            all_goals first | (exfalso; omega) | exact Exs.of (⟨A, a, c, ys⟩ : LsV) (by (try dsimp only); (refine FEnt.ent ?_; (repeat (first | exact FEnt.rfl | (refine FEnt.at 3 rfl ?_; (try simp only [List.eraseIdx_cons_zero, List.eraseIdx_cons_succ, List.eraseIdx_zero, List.tail_cons])) | refine FEnt.drop ?_)); done)) ⟨rfl, g6, g7, g8, g9⟩ rfl
          · conv => whnf
            repeat' (first
              | (first | ((with_reducible refine Br.tt ?_); conv => whnf) | ((with_reducible refine Br.ff ?_); conv => whnf) | ((with_reducible refine Br.dt ?_ ?_); (focus (first | assumption | omega)); conv => whnf) | ((with_reducible refine Br.df ?_ ?_); (focus (first | assumption | omega)); conv => whnf) | ((with_reducible refine Br.ndt ?_ ?_); (focus (first | assumption | omega)); conv => whnf))
              | ((with_reducible refine Ar.i64 ?_ ?_); (focus omega); conv => whnf)
              | ((with_reducible refine Nd.mk ?_ ?_); (focus (first | omega | rfl | assumption | (simp; done))); conv => whnf)
              | ((with_reducible refine Nc.go' (fun _ => ?_)); conv => whnf)
              | ((with_reducible refine Ix.ad ?_ ?_ ?_); (focus (assumption)); (focus (omega)); conv => whnf)
              | (first | ((with_reducible apply Ld.rdk0); (focus ((repeat ((refine Rd.own 2 rfl ?_); (assumption))); done)); (focus rfl); (focus (omega)); (focus rfl); conv => whnf) | (refine Ld.at 0 rfl rfl ?_; conv => whnf))
              | (refine LdN.at 0 rfl (by first | exact Nat.le_of_ble_eq_true rfl | (simp; done)) ?_; conv => whnf)
              | (refine St.at 0 rfl (by first | exact Nat.le_of_ble_eq_true rfl | (simp; done)) rfl ?_; conv => whnf)
              | (first | ((with_reducible refine Cl.exs (hrd _) (fun ⟨a6, c6, a7, c7⟩ ⟨w1, w2, w3, w4⟩ => ?_)); conv => whnf) | ((with_reducible refine Cl.is (hpl lab _ (by ((repeat ((refine Rd.own 3 rfl ?_); (assumption))); done)) (by ((repeat (first | assumption | exact LRd.hd (by assumption) | apply LRd.cons | apply LRd.app)); done))) ?_); conv => whnf) | ((with_reducible refine Cl.is (hsz _ _ _ _ _ (by ((repeat ((refine Rd.own 2 rfl ?_); (assumption))); done))) ?_); conv => whnf)))
            all_goals first | (exfalso; omega) | exact Exs.of (⟨A, a, c, ys⟩ : LsV) (by (try dsimp only); (refine FEnt.ent ?_; (repeat (first | exact FEnt.rfl | (refine FEnt.at 3 rfl ?_; (try simp only [List.eraseIdx_cons_zero, List.eraseIdx_cons_succ, List.eraseIdx_zero, List.tail_cons])) | refine FEnt.drop ?_)); done)) ⟨rfl, g6, g7, g8, g9⟩ rfl
        · rw [if_neg h3] at g4
          have g9' : ∀ l ∈ lnsV ys ++ [(⟨lab, nums, szs, nam, false⟩ : Ln)], LnOk l := fun l hl => by
            rcases List.mem_append.1 hl with hl | hl
            · exact g9 l hl
            · rw [List.mem_singleton.1 hl]; exact hxo
          rcases hpb with h1 | ⟨h1, h2⟩
          · clear hpl hok0
            conv => whnf
            repeat' (first
              | (first | ((with_reducible refine Br.ff ?_); conv => whnf) | ((with_reducible refine Br.dt ?_ ?_); (focus (first | assumption | omega)); conv => whnf) | ((with_reducible refine Br.df ?_ ?_); (focus (first | assumption | omega)); conv => whnf) | ((with_reducible refine Br.ndf ?_ ?_); (focus (first | assumption | omega)); conv => whnf))
              | ((with_reducible refine Ar.i64 ?_ ?_); (focus omega); conv => whnf)
              | ((with_reducible refine Nd.mk ?_ ?_); (focus (first | omega | rfl | assumption | (simp; done))); conv => whnf)
              | ((with_reducible refine Nc.go' (fun _ => ?_)); conv => whnf)
              | ((with_reducible refine Ix.ad ?_ ?_ ?_); (focus (assumption)); (focus (omega)); conv => whnf)
              | (first | ((with_reducible apply Ld.rdk0); (focus ((repeat ((refine Rd.own 2 rfl ?_); (assumption))); done)); (focus rfl); (focus (omega)); (focus rfl); conv => whnf) | (refine Ld.at 0 rfl rfl ?_; conv => whnf))
              | (refine LdN.at 0 rfl (by first | exact Nat.le_of_ble_eq_true rfl | (simp; done)) ?_; conv => whnf)
              | (refine St.at 0 rfl (by first | exact Nat.le_of_ble_eq_true rfl | (simp; done)) rfl ?_; conv => whnf)
              | (first | ((with_reducible refine Cl.exs (hrd _) (fun ⟨a6, c6, a7, c7⟩ ⟨w1, w2, w3, w4⟩ => ?_)); conv => whnf) | ((with_reducible refine Cl.is (hsz _ _ _ _ _ (by ((repeat ((refine Rd.own 2 rfl ?_); (assumption))); done))) ?_); conv => whnf))
              | ((with_reducible refine (?_ : Sm _ (Builtin.append_ _ _ _) _ _)); (((with_reducible apply (Sm.appAt (E := lvE) (et := 59) Tryz.tysOk 4)); (focus rfl)); (rotate_left; (focus (exact Rd.ptc 0 rfl [_] rfl)); rotate_right; (focus rfl)); (focus rfl); (focus rfl); (focus rfl); (focus rfl); (focus rfl); (focus rfl); (focus ((simp only [List.length_append, List.length_cons, List.length_nil]); omega)); (intro _ _ _ _); conv => whnf)))
            all_goals try (exfalso; omega)
            rename_i a5 c5 hc5 had5
            exact ⟨k + 1, n + z, (star A (star (own numE 3 a6 c6 nums) (own numE 3 a7 c7 szs)), a5, c5, ys ++ [⟨⟨lab, nums, szs, nam, false⟩, a6, c6, a7, c7⟩]), by kernel_rfl, by (try dsimp only); (refine FEnt.ent ?_; (repeat (first | exact FEnt.rfl | (refine FEnt.at 0 rfl ?_; (try simp only [List.eraseIdx_cons_zero, List.eraseIdx_cons_succ, List.eraseIdx_zero, List.tail_cons])) | (refine FEnt.at 2 rfl ?_; (try simp only [List.eraseIdx_cons_zero, List.eraseIdx_cons_succ, List.eraseIdx_zero, List.tail_cons])) | (refine FEnt.at 4 rfl ?_; (try simp only [List.eraseIdx_cons_zero, List.eraseIdx_cons_succ, List.eraseIdx_zero, List.tail_cons])) | refine FEnt.star ?_ | refine FEnt.drop ?_)); done), ⟨by omega, by dsimp only; rw [lns_snoc]; exact g4, ⟨by rw [List.length_append]; simp only [List.length_cons, List.length_nil]; omega, hc5, had5⟩, LRd.snoc g8 ⟨w1, w2, w3, w4⟩, by dsimp only; rw [lns_snoc]; exact g9'⟩, by omega⟩
          · clear hok0
            conv => whnf
            repeat' (first
              | (first | ((with_reducible refine Br.tt ?_); conv => whnf) | ((with_reducible refine Br.ff ?_); conv => whnf) | ((with_reducible refine Br.dt ?_ ?_); (focus (first | assumption | omega)); conv => whnf) | ((with_reducible refine Br.df ?_ ?_); (focus (first | assumption | omega)); conv => whnf) | ((with_reducible refine Br.ndt ?_ ?_); (focus (first | assumption | omega)); conv => whnf))
              | ((with_reducible refine Ar.i64 ?_ ?_); (focus omega); conv => whnf)
              | ((with_reducible refine Nd.mk ?_ ?_); (focus (first | omega | rfl | assumption | (simp; done))); conv => whnf)
              | ((with_reducible refine Nc.go' (fun _ => ?_)); conv => whnf)
              | ((with_reducible refine Ix.ad ?_ ?_ ?_); (focus (assumption)); (focus (omega)); conv => whnf)
              | (first | ((with_reducible apply Ld.rdk0); (focus ((repeat ((refine Rd.own 2 rfl ?_); (assumption))); done)); (focus rfl); (focus (omega)); (focus rfl); conv => whnf) | (refine Ld.at 0 rfl rfl ?_; conv => whnf))
              | (refine LdN.at 0 rfl (by first | exact Nat.le_of_ble_eq_true rfl | (simp; done)) ?_; conv => whnf)
              | (refine St.at 0 rfl (by first | exact Nat.le_of_ble_eq_true rfl | (simp; done)) rfl ?_; conv => whnf)
              | (first | ((with_reducible refine Cl.exs (hrd _) (fun ⟨a6, c6, a7, c7⟩ ⟨w1, w2, w3, w4⟩ => ?_)); conv => whnf) | ((with_reducible refine Cl.is (hpl lab _ (by ((repeat ((refine Rd.own 3 rfl ?_); (assumption))); done)) (by ((repeat (first | assumption | exact LRd.hd (by assumption) | apply LRd.cons | apply LRd.app)); done))) ?_); conv => whnf) | ((with_reducible refine Cl.is (hsz _ _ _ _ _ (by ((repeat ((refine Rd.own 2 rfl ?_); (assumption))); done))) ?_); conv => whnf))
              | ((with_reducible refine (?_ : Sm _ (Builtin.append_ _ _ _) _ _)); (((with_reducible apply (Sm.appAt (E := lvE) (et := 59) Tryz.tysOk 4)); (focus rfl)); (rotate_left; (focus (exact Rd.ptc 0 rfl [_] rfl)); rotate_right; (focus rfl)); (focus rfl); (focus rfl); (focus rfl); (focus rfl); (focus rfl); (focus rfl); (focus ((simp only [List.length_append, List.length_cons, List.length_nil]); omega)); (intro _ _ _ _); conv => whnf)))
            all_goals try (exfalso; omega)
            rename_i a5 c5 hc5 had5
            exact ⟨k + 1, n + z, (star A (star (own numE 3 a6 c6 nums) (own numE 3 a7 c7 szs)), a5, c5, ys ++ [⟨⟨lab, nums, szs, nam, false⟩, a6, c6, a7, c7⟩]), by kernel_rfl, by (try dsimp only); (refine FEnt.ent ?_; (repeat (first | exact FEnt.rfl | (refine FEnt.at 0 rfl ?_; (try simp only [List.eraseIdx_cons_zero, List.eraseIdx_cons_succ, List.eraseIdx_zero, List.tail_cons])) | (refine FEnt.at 2 rfl ?_; (try simp only [List.eraseIdx_cons_zero, List.eraseIdx_cons_succ, List.eraseIdx_zero, List.tail_cons])) | (refine FEnt.at 4 rfl ?_; (try simp only [List.eraseIdx_cons_zero, List.eraseIdx_cons_succ, List.eraseIdx_zero, List.tail_cons])) | refine FEnt.star ?_ | refine FEnt.drop ?_)); done), ⟨by omega, by dsimp only; rw [lns_snoc]; exact g4, ⟨by rw [List.length_append]; simp only [List.length_cons, List.length_nil]; omega, hc5, had5⟩, LRd.snoc g8 ⟨w1, w2, w3, w4⟩, by dsimp only; rw [lns_snoc]; exact g9'⟩, by omega⟩
  · rw [List.drop_eq_nil_of_le (by omega), lnsA] at g4
    have hpl := fun w L h h' => Tryz.refPlace a c ys w L (by omega) h h' (okAt rfl g9)
    clear hwa hsp hok0 q3
    conv => whnf
    repeat' ((with_reducible refine Br.df ?_ ?_); (focus (first | assumption | omega)); conv => whnf)
    conv => whnf
    refine Lp.by Tryz.tysOk [10] (fun (i : Nat) => [.int .i64 i]) (fun i => own lvE 59 a c ys :: A :: L) (fun i => i ≤ ys.length ∧ nmsA (lnsV ys) i ((lnsV ys).drop i) = (lf, nf, ef)) (fun i => ys.length - i) (0) (by kernel_rfl) (by (refine FEnt.ent ?_; (repeat (first | exact FEnt.rfl | (refine FEnt.at 0 rfl ?_; (try simp only [List.eraseIdx_cons_zero, List.eraseIdx_cons_succ, List.eraseIdx_zero, List.tail_cons])) | refine FEnt.drop ?_)); done)) (⟨by omega, g4⟩) ?_
    rintro i ⟨u1, u2⟩
    conv => whnf
    repeat (intro _; conv => whnf)
    by_cases hi : i < ys.length
    · rw [lns_at hi, nmsA] at u2
      clear g4
      by_cases h1 : (ys.getD i lvE.d).l.nam ≠ noB ∧ plcF (ys.getD i lvE.d).l.nam 0 (lnsV ys) < 0
      · rw [if_pos h1] at u2
        simp only [Prod.mk.injEq] at u2
        obtain ⟨rfl, rfl, rfl⟩ := u2
        obtain ⟨h1, h2⟩ := h1
        have h1 : ¬ (ys.getD i lvE.d).l.nam = (⟨#[]⟩ : ByteArray) := h1
        conv => whnf
        repeat' (first
          | (first | ((with_reducible refine Br.tt ?_); conv => whnf) | ((with_reducible refine Br.dt ?_ ?_); (focus (first | assumption | omega)); conv => whnf) | ((with_reducible refine Br.ndt ?_ ?_); (focus (first | assumption | omega)); conv => whnf) | ((with_reducible refine Br.yes ?_ ?_); (focus (first | (simp; done) | (simp; omega))); conv => whnf))
          | ((with_reducible refine Ar.i64 ?_ ?_); (focus omega); conv => whnf)
          | ((with_reducible refine Ix.ad ?_ ?_ ?_); (focus (assumption)); (focus ((simp only [List.length_append, List.length_cons, List.length_nil]); omega)); conv => whnf)
          | ((with_reducible apply Ld.rdk); (focus ((repeat ((refine Rd.own 0 rfl ?_); (assumption))); done)); (focus rfl); (focus (omega)); (focus rfl); conv => whnf)
          | ((with_reducible refine Cl.is (hpl _ _ (by ((repeat ((refine Rd.own 0 rfl ?_); (assumption))); done)) (by ((repeat (first | assumption | exact LRd.hd (by assumption) | apply LRd.cons | apply LRd.app)); done))) ?_); conv => whnf))
        all_goals first | (exfalso; omega) | exact Exs.of (⟨A, a, c, ys⟩ : LsV) (by (try dsimp only); (exact Ent.rfl)) ⟨rfl, g6, g7, g8, g9⟩ rfl
      · rw [if_neg h1] at u2
        have hpb : (ys.getD i lvE.d).l.nam = (⟨#[]⟩ : ByteArray) ∨ (¬ (ys.getD i lvE.d).l.nam = (⟨#[]⟩ : ByteArray) ∧ 0 ≤ plcF (ys.getD i lvE.d).l.nam 0 (lnsV ys)) := by
          by_cases hl : (ys.getD i lvE.d).l.nam = noB
          · exact .inl hl
          · exact .inr ⟨hl, by have h5 : ¬ _ := fun h => h1 ⟨hl, h⟩; omega⟩
        clear h1
        rcases hpb with h1 | ⟨h1, h2⟩
        · clear hpl
          conv => whnf
          repeat' (first
            | (first | ((with_reducible refine Br.ff ?_); conv => whnf) | ((with_reducible refine Br.ndf ?_ ?_); (focus (first | assumption | omega)); conv => whnf) | ((with_reducible refine Br.yes ?_ ?_); (focus (first | (simp; done) | (simp; omega))); conv => whnf))
            | ((with_reducible refine Ar.i64 ?_ ?_); (focus omega); conv => whnf)
            | ((with_reducible refine Ix.ad ?_ ?_ ?_); (focus (assumption)); (focus ((simp only [List.length_append, List.length_cons, List.length_nil]); omega)); conv => whnf)
            | ((with_reducible apply Ld.rdk); (focus ((repeat ((refine Rd.own 0 rfl ?_); (assumption))); done)); (focus rfl); (focus (omega)); (focus rfl); conv => whnf))
          all_goals first | (exfalso; omega) | exact ⟨i + 1, by kernel_rfl, by (exact Ent.rfl), ⟨by omega, u2⟩, by omega⟩
        · conv => whnf
          repeat' (first
            | (first | ((with_reducible refine Br.tt ?_); conv => whnf) | ((with_reducible refine Br.df ?_ ?_); (focus (first | assumption | omega)); conv => whnf) | ((with_reducible refine Br.ndt ?_ ?_); (focus (first | assumption | omega)); conv => whnf) | ((with_reducible refine Br.yes ?_ ?_); (focus (first | (simp; done) | (simp; omega))); conv => whnf))
            | ((with_reducible refine Ar.i64 ?_ ?_); (focus omega); conv => whnf)
            | ((with_reducible refine Ix.ad ?_ ?_ ?_); (focus (assumption)); (focus ((simp only [List.length_append, List.length_cons, List.length_nil]); omega)); conv => whnf)
            | ((with_reducible apply Ld.rdk); (focus ((repeat ((refine Rd.own 0 rfl ?_); (assumption))); done)); (focus rfl); (focus (omega)); (focus rfl); conv => whnf)
            | ((with_reducible refine Cl.is (hpl _ _ (by ((repeat ((refine Rd.own 0 rfl ?_); (assumption))); done)) (by ((repeat (first | assumption | exact LRd.hd (by assumption) | apply LRd.cons | apply LRd.app)); done))) ?_); conv => whnf))
          all_goals first | (exfalso; omega) | exact ⟨i + 1, by kernel_rfl, by (exact Ent.rfl), ⟨by omega, u2⟩, by omega⟩
    · rw [List.drop_eq_nil_of_le (by simpa using (by omega : ys.length ≤ i)), nmsA] at u2
      simp only [Prod.mk.injEq] at u2
      obtain ⟨rfl, rfl, rfl⟩ := u2
      clear g4 hpl
      conv => whnf
      repeat' ((with_reducible refine Br.no ?_ ?_); (focus (first | (simp; done) | (simp; omega))); conv => whnf)
      all_goals first | (exfalso; omega) | exact Exs.of (⟨A, a, c, ys⟩ : LsV) (by (try dsimp only); (exact Ent.rfl)) ⟨rfl, g6, g7, g8, g9⟩ rfl
end Go.Proofs
