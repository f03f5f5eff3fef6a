/- Marks as text: the whole text; what must be whatever is asked: contracts. -/
import Derived.Test.YtkecobhmglcnfaaDoorTraceC
set_option linter.all false
namespace Go.Proofs
open Go.Eng
open Classical
set_option linter.unusedVariables false
set_option maxRecDepth 100000
set_option maxHeartbeats 4000000
theorem Tryd.gkMid {A S : List HP} (h : Tryd.Gk (A ++ S)) (M : List HP) : Tryd.Gk (A ++ (S ++ M)) := fun w s => h w (s.sub (by rw [← List.append_assoc]; exact List.sublist_append_left _ _))
abbrev bsL (l : List UInt8) : ByteArray := ⟨l.toArray⟩
theorem bsL_list (l : List UInt8) : (bsL l).data.toList = l := rfl
theorem bsL_size (l : List UInt8) : (bsL l).size = l.length := rfl
/-- a mark's words, its line, marks' lines -/
def wordsF (m : Mrk) : List ByteArray := [bsL (Lib.itoa m.t), nameF m.s, bsL (Lib.itoa m.a), bsL (Lib.itoa m.b), bsL (Lib.itoa m.n), bsL (hexF m.d)]
def joinF (m : Mrk) : List UInt8 := Lib.join ((wordsF m).map (·.data.toList)) [32]
def lineF (m : Mrk) : List UInt8 := joinF m ++ [10]
def prnF (xs : List Mrk) : List UInt8 := xs.flatMap lineF
theorem nameF_len (s : Int) : (nameF s).size ≤ 7 := by
  unfold nameF
  split
  · rename_i h
    by_cases h0 : s.toNat < 10
    · have : ∀ i : Fin 10, (nameL.getD i.val strE.d).size ≤ 7 := by decide
      exact this ⟨s.toNat, h0⟩
    · have : nameL.getD s.toNat strE.d = strE.d := by
        rw [List.getD_eq_getElem?_getD, List.getElem?_eq_none (by show nameL.length ≤ _; have : nameL.length = 10 := rfl; omega)]
        rfl
      rw [this]; decide
  · decide
theorem joinF_len {m : Mrk} (hm : MayM m) : (joinF m).length ≤ 100 + 2 * m.d.size := by
  have h1 := Lib.itoa_length_le m.t (by have := hm.t; omega) (by have := hm.t; omega)
  have h2 := Lib.itoa_length_le m.a (by have := hm.a; omega) (by have := hm.a; omega)
  have h3 := Lib.itoa_length_le m.b (by have := hm.b; omega) (by have := hm.b; omega)
  have h4 := Lib.itoa_length_le m.n (by have := hm.n; omega) (by have := hm.n; omega)
  have h5 := hexF_len m.d
  have h6 := nameF_len m.s
  rw [← size_list] at h6
  simp only [joinF, wordsF, List.map_cons, List.map_nil, Lib.join_cons, Lib.joinTail, List.flatten_cons, List.flatten_nil, List.length_append, List.length_cons, List.length_nil, bsL_list]
  omega
theorem prn_snoc {xs : List Mrk} {k : Nat} (hk : k < xs.length) : prnF (xs.take (k + 1)) = prnF (xs.take k) ++ lineF (xs.getD k mrE.d) := by
  unfold prnF
  rw [List.take_add_one, List.getElem?_eq_getElem hk, List.flatMap_append]
  have e : xs.getD k mrE.d = xs[k] := by simp [List.getD, hk]
  rw [e]
  simp
theorem prn_len {xs : List Mrk} {D : Nat} (h : ∀ m ∈ xs, MayM m ∧ m.d.size ≤ D) : (prnF xs).length ≤ (101 + 2 * D) * xs.length := by
  induction xs with
  | nil => simp [prnF]
  | cons x xs ih =>
    have h1 := h x (by simp)
    have h2 := ih (fun m hm => h m (by simp [hm]))
    have h3 := joinF_len h1.1
    have e : prnF (x :: xs) = lineF x ++ prnF xs := by simp [prnF]
    rw [e, List.length_append, List.length_cons, Nat.mul_add]
    have e2 : (lineF x).length = (joinF x).length + 1 := by simp [lineF]
    omega
/-- what printing answers -/
inductive PrnR (xs : List Mrk) : List UInt8 → Int → Prop where
  | long (h : 4096 < xs.length) : PrnR xs [] 4
  | no (h : xs.length ≤ 4096) (k : Nat) (hk : k < xs.length) (b : ¬ MayM (xs.getD k mrE.d)) : PrnR xs [] 2
  | ok (h : xs.length ≤ 4096) (m : ∀ x ∈ xs, MayM x) : PrnR xs (prnF xs) 0
theorem Tryd.trcPrint (a : Option Addr) (c : Nat) (xs : List Mrk) (l : List UInt8) (e : Int) (L : List HP) (hN : xs.length ≤ 100000) (hB : ∀ m ∈ xs, MrB m ∧ m.d.size ≤ 1000000) (hr : Rd mrE L a xs) (hG : Tryd.Gk L) (hR : PrnR xs l e) :
    Con Tryd.prog 16 [.slice a xs.length c] L (Is (.tuple #[.string (bsL l), z64 e]) L) := by
  by_cases hlong : 4096 < xs.length
  · have he : l = [] ∧ e = 4 := by
      cases hR with
      | long h => exact ⟨rfl, rfl⟩
      | no h _ _ _ => omega
      | ok h _ => omega
    obtain ⟨rfl, rfl⟩ := he
    clear hB
    refine con_of Tryd.tysOk Tryd.func16 rfl rfl ?_
    conv => whnf
    repeat' ((with_reducible refine Br.dt ?_ ?_); (focus (first | assumption | omega)); conv => whnf)
    all_goals (refine Is.ent ?_ ?_; (focus (exact Ent.rfl)); (exact Is.rfl))
  · refine con_of Tryd.tysOk Tryd.func16 rfl rfl ?_
    conv => whnf
    repeat' (first
      | ((with_reducible refine Br.df ?_ ?_); (focus (first | assumption | omega)); conv => whnf)
      | ((with_reducible refine Nc.go' (fun _ => ?_)); conv => whnf))
    rename_i b4
    conv => whnf
    refine Lp.by Tryd.tysOk [13] (fun (k : Nat) => [.int .i64 k]) (fun k => Tryd.bldH b4 (prnF (xs.take k)) :: L) (fun k => k ≤ xs.length ∧ ∀ i, i < k → MayM (xs.getD i mrE.d)) (fun k => xs.length - k) (0) (by kernel_rfl) (by (refine FEnt.ent ?_; (repeat (first | exact FEnt.rfl | (apply Tryd.bldShutN))); done)) (⟨by omega, fun i hi => by omega⟩) ?_
    rintro k ⟨g1, g2⟩
    conv => whnf
    repeat (intro _; conv => whnf)
    by_cases hk : k < xs.length
    · have hm := hB _ (getD_mem (d := mrE.d) hk)
      have hmy := fun L => Tryd.trcMay (xs.getD k mrE.d) L hm.1
      obtain ⟨⟨b1, b2, b3, b5, b6⟩, hds⟩ := hm
      by_cases hM : MayM (xs.getD k mrE.d)
      · have hmy := fun L => Con.dt hM (hmy L)
        have hpl : (prnF (xs.take k)).length ≤ (101 + 2 * 1000000) * (xs.take k).length := prn_len fun m hm => by
          obtain ⟨i, hi, rfl⟩ := List.getElem_of_mem hm
          have hi2 : i < k := by rw [List.length_take] at hi; omega
          rw [List.getElem_take]
          have h1 := g2 i hi2
          have h2 := (hB (xs[i]'(by omega)) (List.getElem_mem _)).2
          rw [show xs.getD i mrE.d = xs[i]'(by omega) from by simp [List.getD, show i < xs.length by omega]] at h1
          exact ⟨h1, h2⟩
        rw [List.length_take, show min k xs.length = k from by omega] at hpl
        have hjl := joinF_len hM
        have hsn := prn_snoc hk
        have i1 := fun L hG => Tryd.itoa (xs.getD k mrE.d).t b1 L hG
        have i2 := fun L hG => Tryd.itoa (xs.getD k mrE.d).a b3 L hG
        have i3 := fun L hG => Tryd.itoa (xs.getD k mrE.d).b b5 L hG
        have i4 := fun L hG => Tryd.itoa (xs.getD k mrE.d).n b6 L hG
        have nm := fun L => Tryd.trcName (xs.getD k mrE.d).s L b2
        have hx := fun L => Tryd.trcHex (xs.getD k mrE.d).d L hds
        clear hR hB hlong
        have hj := fun b L h => Tryd.join (some (⟨b, 0, none⟩ : Addr)) 6 (wordsF (xs.getD k mrE.d)) ⟨#[32]⟩ L h (by exact Nat.le_of_ble_eq_true rfl) (by exact Nat.le_of_ble_eq_true rfl) (by exact Nat.le_of_ble_eq_true rfl) (by show (joinF (xs.getD k mrE.d)).length ≤ _; omega)
        have hz1 : (bsL (joinF (xs.getD k mrE.d))).size = (joinF (xs.getD k mrE.d)).length := rfl
        have hz2 : (ByteArray.mk #[10]).size = 1 := rfl
        have hz3 : (bsL (joinF (xs.getD k mrE.d)) ++ ByteArray.mk #[10]).size = (joinF (xs.getD k mrE.d)).length + 1 := by rw [← size_list, append_list, List.length_append]; rfl
        have hfin : prnF (xs.take k) ++ (bsL (joinF (xs.getD k mrE.d)) ++ ByteArray.mk #[10]).data.toList = prnF (xs.take (k + 1)) := by rw [append_list, hsn]; rfl
        conv => whnf
        repeat' (first
          | (first | ((with_reducible refine Br.nt ?_); conv => whnf) | ((with_reducible refine Br.dt ?_ ?_); (focus (first | assumption | omega)); conv => whnf))
          | ((with_reducible refine Nd.mk ?_ ?_); (focus (first | omega | rfl | assumption | (simp; done))); conv => whnf)
          | ((with_reducible refine Nc.go' (fun _ => ?_)); conv => whnf)
          | ((with_reducible refine Ix.ad ?_ ?_ ?_); (focus (exact Rd.ad (by assumption))); (focus (omega)); conv => whnf)
          | (first | ((with_reducible apply LdN.rdk); (focus ((repeat (first | assumption | apply Rd.cons)); done)); (focus rfl); (focus rfl); (focus (omega)); conv => whnf) | (refine LdN.at 0 rfl (by first | exact Nat.le_of_ble_eq_true rfl | (simp; done)) ?_; conv => whnf))
          | (refine St.at 0 rfl (by first | exact Nat.le_of_ble_eq_true rfl | (simp; done)) rfl ?_; conv => whnf)
          | ((with_reducible refine Cl.is (hmy _) ?_); conv => whnf))
        rename_i b6'
        conv => whnf
        refine Dr.fr (id := 9) Tryd.tysOk rfl [(0, 0), (3, 0), (6, 0), (9, 0), (12, 0), (15, 0), (1, 1), (4, 1), (7, 1), (10, 1), (13, 1), (16, 1), (2, 5), (5, 1), (8, 5), (11, 5), (14, 5), (17, 1), (18, 2), (19, 0)] (([] : List HP)) (ptc b6' 29 (mrC (xs.getD k mrE.d)) :: Tryd.bldH b4 (prnF (xs.take k)) :: L) (by kernel_rfl) (by (exact Ent.rfl)) ?_
        conv => whnf
        conv => whnf
        repeat' (first
          | ((with_reducible refine Ar.i64 ?_ ?_); (focus omega); conv => whnf)
          | ((with_reducible refine Nd.mk ?_ ?_); (focus (first | omega | rfl | assumption | (simp; done))); conv => whnf)
          | ((with_reducible refine Nc.go' (fun _ => ?_)); conv => whnf)
          | (refine Ld.at 0 rfl rfl ?_; conv => whnf)
          | ((with_reducible refine (?_ : CF _ 33 _ _ _ _)); (first | refine CF.is (A' := []) (fun M => i1 _ (Tryd.gkMid (by ((repeat (first | assumption | apply Tryd.gkCons | apply Tryd.gkApp)); done)) M)) ?_ | refine CF.is (A' := []) (fun M => i2 _ (Tryd.gkMid (by ((repeat (first | assumption | apply Tryd.gkCons | apply Tryd.gkApp)); done)) M)) ?_ | refine CF.is (A' := []) (fun M => i3 _ (Tryd.gkMid (by ((repeat (first | assumption | apply Tryd.gkCons | apply Tryd.gkApp)); done)) M)) ?_ | refine CF.is (A' := []) (fun M => i4 _ (Tryd.gkMid (by ((repeat (first | assumption | apply Tryd.gkCons | apply Tryd.gkApp)); done)) M)) ?_); conv => whnf)
          | (first | ((with_reducible refine CD.is (fun M => nm _) ?_); conv => whnf) | ((with_reducible refine CD.is (fun M => hx _) ?_); conv => whnf))
          | (first | ((with_reducible refine (?_ : Cl _ 36 _ _ _ _)); (refine Cl.is (v := .string (bsL (joinF (xs.getD k mrE.d)))) (hj _ _ (Rd.ptc 0 rfl (wordsF (xs.getD k mrE.d)) rfl)) ?_); conv => whnf) | ((refine Cl.isAt 2 rfl (Tryd.bldWrite b4 _ _ _ (by omega)) ?_); conv => whnf)))
        all_goals (rw [hfin]; exact ⟨k + 1, by kernel_rfl, by (refine FEnt.ent ?_; (repeat (first | exact FEnt.rfl | (refine FEnt.at 2 rfl ?_; (try simp only [List.eraseIdx_cons_zero, List.eraseIdx_cons_succ, List.eraseIdx_zero, List.tail_cons])) | refine FEnt.drop ?_)); done), ⟨by omega, lt_step g2 hM⟩, by omega⟩)
      · have hmy := fun L => Con.df hM (hmy L)
        have he : l = [] ∧ e = 2 := by
          cases hR with
          | long h => omega
          | no h _ _ _ => exact ⟨rfl, rfl⟩
          | ok h hm => exact absurd (hm _ (getD_mem hk)) hM
        obtain ⟨rfl, rfl⟩ := he
        clear hR hB g2
        conv => whnf
        repeat' (first
          | (first | ((with_reducible refine Br.nf ?_); conv => whnf) | ((with_reducible refine Br.dt ?_ ?_); (focus (first | assumption | omega)); conv => whnf))
          | ((with_reducible refine Nd.mk ?_ ?_); (focus (first | omega | rfl | assumption | (simp; done))); conv => whnf)
          | ((with_reducible refine Nc.go' (fun _ => ?_)); conv => whnf)
          | ((with_reducible refine Ix.ad ?_ ?_ ?_); (focus (exact Rd.ad (by assumption))); (focus (omega)); conv => whnf)
          | (first | ((with_reducible apply LdN.rdk); (focus ((repeat (first | assumption | apply Rd.cons)); done)); (focus rfl); (focus rfl); (focus (omega)); conv => whnf) | (refine LdN.at 0 rfl (by first | exact Nat.le_of_ble_eq_true rfl | (simp; done)) ?_; conv => whnf))
          | (refine St.at 0 rfl (by first | exact Nat.le_of_ble_eq_true rfl | (simp; done)) rfl ?_; conv => whnf)
          | ((with_reducible refine Cl.is (hmy _) ?_); conv => whnf))
        all_goals first | (refine Is.ent ?_ ?_; (focus (refine FEnt.ent ?_; (repeat (first | exact FEnt.rfl | refine FEnt.drop ?_)); done)); (exact Is.rfl)) | (exfalso; omega)
    · have e0 : k = xs.length := by omega
      subst e0
      rw [List.take_length]
      have he : l = prnF xs ∧ e = 0 := by
        cases hR with
        | long h => omega
        | no h i hi hb => exact absurd (g2 i hi) hb
        | ok h hm => exact ⟨rfl, rfl⟩
      obtain ⟨rfl, rfl⟩ := he
      clear hR hB g2
      conv => whnf
      repeat' (first
        | ((with_reducible refine Br.df ?_ ?_); (focus (first | assumption | omega)); conv => whnf)
        | ((with_reducible refine Cl.is (Tryd.bldString b4 _ _) ?_); conv => whnf))
      all_goals (refine Is.ent ?_ ?_; (focus (exact Ent.rfl)); (exact Is.rfl))
/-! what must be whatever is asked -/
abbrev liveM : Mrk := ⟨7, 7, 0, 0, 0, ⟨#[97, 98]⟩⟩
theorem live_prn : prnF [liveM] = [55, 32, 115, 97, 105, 100, 32, 48, 32, 48, 32, 48, 32, 54, 49, 54, 50, 10] := by
  have h7 : Lib.itoa 7 = [55] := by unfold Lib.itoa; rw [if_neg (by decide)]; exact Lib.decDigits_one (i := 7) (by decide)
  have h0 : Lib.itoa 0 = [48] := by unfold Lib.itoa; rw [if_neg (by decide)]; exact Lib.decDigits_one (i := 0) (by decide)
  have hh : hexF liveM.d = [54, 49, 54, 50] := by decide
  have hn : (nameF 7).data.toList = [115, 97, 105, 100] := by decide
  simp only [prnF, List.flatMap_cons, List.flatMap_nil, List.append_nil, lineF, joinF, wordsF, List.map_cons, List.map_nil, Lib.join_cons, Lib.joinTail, List.flatten_cons, List.flatten_nil, bsL_list, h7, h0, hh, hn]
  rfl
theorem live_may : MayM liveM := ⟨by decide, by decide, by decide, by decide, by decide⟩
theorem live_mrb : MrB liveM := ⟨by decide, by decide, by decide, by decide, by decide⟩
theorem Tryd.trcLive (L : List HP) (hG : Tryd.Gk L) : Con Tryd.prog 10 [] L (Is (.bool true) L) := by
  have hp := fun b L h hG => Tryd.trcPrint (some ⟨b, 0, none⟩) 1 [liveM] (prnF [liveM]) 0 L (by decide) (fun m hm => by rw [List.mem_singleton.1 hm]; exact ⟨live_mrb, by decide⟩) h hG (.ok (by decide) (fun x hx => by rw [List.mem_singleton.1 hx]; exact live_may))
  have hn := fun L => Tryd.trcName 9 L (by decide)
  rw [live_prn] at hp
  have e9 : nameF 9 = ⟨#[115, 116, 111, 114, 101, 100]⟩ := by decide
  rw [e9] at hn
  refine con_of Tryd.tysOk Tryd.func10 rfl rfl ?_
  conv => whnf
  repeat' (first
    | (first | ((with_reducible refine Br.tt ?_); conv => whnf) | ((with_reducible refine Br.dt ?_ ?_); (focus (first | assumption | omega)); conv => whnf) | ((with_reducible refine Br.yes ?_ ?_); (focus (first | (simp; done) | (simp; omega))); conv => whnf))
    | ((with_reducible refine Nd.mk ?_ ?_); (focus (first | omega | rfl | assumption | (simp; done))); conv => whnf)
    | ((with_reducible refine Nc.go' (fun _ => ?_)); conv => whnf)
    | (first | ((with_reducible refine (?_ : Cl _ 16 _ _ _ _)); (refine Cl.is (hp _ _ (Rd.ptc 0 rfl [liveM] rfl) (by ((repeat (first | assumption | apply Tryd.gkCons | apply Tryd.gkApp)); done))) ?_); conv => whnf) | ((with_reducible refine Cl.is (hn _) ?_); conv => whnf)))
  all_goals (refine Is.ent ?_ ?_; (focus (refine FEnt.ent ?_; (repeat (first | exact FEnt.rfl | refine FEnt.drop ?_)); done)); (exact Is.rfl))
end Go.Proofs
