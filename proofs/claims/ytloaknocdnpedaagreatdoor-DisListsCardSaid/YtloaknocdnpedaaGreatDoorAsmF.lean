/- The document's assembler: contract. -/
import Derived.Test.YtloaknocdnpedaaGreatDoorAsmE
set_option linter.all false
namespace Go.Proofs
open Go.Eng
open Classical
set_option linter.unusedVariables false
set_option maxRecDepth 100000
set_option maxHeartbeats 4000000
def p2 (n : Int) : List UInt8 := [u8of n, u8of (n / 256)]
theorem p2_len (n : Int) : (p2 n).length = 2 := rfl
theorem u8of_mod {a b : Int} (h : a % 256 = b % 256) : u8of a = u8of b := by
  have h1 := u8of_int a
  have h2 := u8of_int b
  exact UInt8.toNat_inj.1 (by omega)
theorem Tryz.refRest (n m : Int) (L : List HP) (hn : -1 ≤ n ∧ n ≤ 1000000000) (hm : m = 256 ∨ m = 65536) : Con Tryz.prog 61 [qI n, qI m] L (Is (qI (n % m)) L) := by
  rcases Int.lt_or_le n 0 with h | h
  · obtain rfl : n = -1 := by omega
    rcases hm with rfl | rfl
    · have t1 : (-1 : Int).tmod 256 = -1 := by decide
      refine con_of Tryz.tysOk Tryz.func61 rfl rfl ?_
      conv => whnf
      repeat' (first
        | ((with_reducible refine Br.dt ?_ ?_); (focus (first | assumption | omega)); conv => whnf)
        | ((with_reducible refine Ar.i64 ?_ ?_); (focus omega); conv => whnf)
        | ((with_reducible refine Nd.mk ?_ ?_); (focus (first | omega | rfl | assumption | (simp; done))); conv => whnf)
        | ((rw [t1]); conv => whnf))
      all_goals first | (exfalso; omega) | (refine Is.ent ?_ ?_; (focus (exact Ent.rfl)); (exact Is.rfl))
    · have t1 : (-1 : Int).tmod 65536 = -1 := by decide
      refine con_of Tryz.tysOk Tryz.func61 rfl rfl ?_
      conv => whnf
      repeat' (first
        | ((with_reducible refine Br.dt ?_ ?_); (focus (first | assumption | omega)); conv => whnf)
        | ((with_reducible refine Ar.i64 ?_ ?_); (focus omega); conv => whnf)
        | ((with_reducible refine Nd.mk ?_ ?_); (focus (first | omega | rfl | assumption | (simp; done))); conv => whnf)
        | ((rw [t1]); conv => whnf))
      all_goals first | (exfalso; omega) | (refine Is.ent ?_ ?_; (focus (exact Ent.rfl)); (exact Is.rfl))
  · have t1 : n.tmod m = n % m := by rw [Int.tmod_eq_emod_of_nonneg h]
    have hb : 0 ≤ n % m := Int.emod_nonneg n (by omega)
    have hm0 : m ≠ 0 := by omega
    generalize n % m = r at *
    refine con_of Tryz.tysOk Tryz.func61 rfl rfl ?_
    conv => whnf
    repeat' (first
      | ((with_reducible refine Br.df ?_ ?_); (focus (first | assumption | omega)); conv => whnf)
      | ((with_reducible refine Nd.mk ?_ ?_); (focus (first | omega | rfl | assumption | (simp; done))); conv => whnf)
      | ((rw [t1]); conv => whnf))
    all_goals first | (exfalso; omega) | (refine Is.ent ?_ ?_; (focus (exact Ent.rfl)); (exact Is.rfl))
theorem Tryz.refPut02 (n : Int) (L : List HP) (hn : -1 ≤ n ∧ n ≤ 1000000000) : Con Tryz.prog 19 [qI n] L (Is (.string (bsL (p2 n))) L) := by
  have h1 := fun L => Tryz.refRest n 256 L hn (.inl rfl)
  have h2 := fun L => Tryz.refRest n 65536 L hn (.inr rfl)
  have hl : ∀ L, Con Tryz.prog 37 [qI n] L (Is (qI (n % 256)) L) := fun L => by
    refine con_of Tryz.tysOk Tryz.func37 rfl rfl ?_
    conv => whnf
    repeat' ((with_reducible refine Cl.is (h1 _) ?_); conv => whnf)
    all_goals (refine Is.ent ?_ ?_; (focus (exact Ent.rfl)); (exact Is.rfl))
  have hh : ∀ L, Con Tryz.prog 38 [qI n] L (Is (qI (n % 65536 / 256)) L) := fun L => by
    have t1 : (n % 65536).tdiv 256 = n % 65536 / 256 := by rw [Int.tdiv_eq_ediv_of_nonneg (by omega)]
    have hb : 0 ≤ n % 65536 ∧ n % 65536 < 65536 := by omega
    generalize n % 65536 = r at *
    refine con_of Tryz.tysOk Tryz.func38 rfl rfl ?_
    conv => whnf
    repeat' (first
      | ((with_reducible refine Ar.i64 ?_ ?_); (focus omega); conv => whnf)
      | ((with_reducible refine Nd.mk ?_ ?_); (focus (first | omega | rfl | assumption | (simp; done))); conv => whnf)
      | ((with_reducible refine Cl.is (h2 _) ?_); conv => whnf)
      | ((rw [t1]); conv => whnf))
    all_goals first | (exfalso; omega) | (refine Is.ent ?_ ?_; (focus (exact Ent.rfl)); (exact Is.rfl))
  have e : p2 n = [u8of (n % 256), u8of (n % 65536 / 256)] := by
    unfold p2
    rw [u8of_mod (a := n) (b := n % 256) (by omega), u8of_mod (a := n / 256) (b := n % 65536 / 256) (by omega)]
  rw [e]
  refine con_of Tryz.tysOk Tryz.func19 rfl rfl ?_
  conv => whnf
  repeat' (first
    | ((with_reducible refine Ar.u8b ?_); conv => whnf)
    | ((with_reducible refine Nc.go' (fun _ => ?_)); conv => whnf)
    | (first | ((with_reducible refine Cl.is (hl _) ?_); conv => whnf) | ((with_reducible refine Cl.is (hh _) ?_); conv => whnf))
    | ((with_reducible refine (?_ : Sm _ (convert _ _ _) _ _)); ((apply (Sm.b2s Tryz.tysOk)); (rotate_left; (focus (exact Rd.ptc 0 rfl [_, _] rfl)); rotate_right; (focus rfl)); (focus rfl); (focus rfl); (focus rfl); (focus rfl); (focus rfl); (focus rfl); conv => whnf)))
  all_goals first | (exfalso; omega) | (refine Is.ent ?_ ?_; (focus (refine FEnt.ent ?_; (repeat (first | exact FEnt.rfl | refine FEnt.drop ?_)); done)); (exact Is.rfl))
/-! a text's program -/
noncomputable def numAt (all : List Ln) (l : Ln) (k : Nat) : Int := if l.nam ≠ noB ∧ k + 1 = l.nums.length then plcF l.nam 0 all else l.nums.getD k 0
noncomputable def lnB (all : List Ln) (l : Ln) : Nat → List UInt8
  | 0 => []
  | k + 1 => lnB all l k ++ (p2 (numAt all l k)).take (l.szs.getD k 0).toNat
noncomputable def allB (all r : List Ln) : List UInt8 := r.flatMap fun l => lnB all l l.nums.length
noncomputable def asmF (s : List UInt8) : List UInt8 × Int × Int := if (linesF s).2.2 = 0 then (allB (linesF s).1 (linesF s).1, 0, 0) else ([], (linesF s).2.1, (linesF s).2.2)
theorem lnB_len (all : List Ln) (l : Ln) : ∀ k, (lnB all l k).length ≤ 2 * k
  | 0 => by simp [lnB]
  | k + 1 => by
    rw [lnB, List.length_append, List.length_take, p2_len]
    have := lnB_len all l k
    omega
theorem plc_bd (w : ByteArray) : ∀ (r : List Ln) (n : Int), 0 ≤ n → (∀ l ∈ r, LnOk l) → -1 ≤ plcF w n r ∧ plcF w n r ≤ n + 6 * r.length
  | [], n, hn, _ => by rw [plcF]; simp; omega
  | l :: r, n, hn, h => by
    rw [plcF]
    have hb := sz_bd (h l (by simp))
    split
    · simp only [List.length_cons]; omega
    · have := plc_bd w r (n + szF l) (by omega) (fun l hl => h l (by simp [hl]))
      simp only [List.length_cons]
      omega
theorem lns_len : ∀ (r : List (List UInt8)) (acc : List Ln) (n : Int), (lnsA acc n r).1.length ≤ acc.length + r.length
  | [], acc, n => by rw [lnsA, nms_fst]; simp
  | x :: r, acc, n => by
    rw [lnsA]
    split
    · simp only [List.length_cons]; omega
    · split
      · simp only [List.length_cons]; omega
      · split
        · simp only [List.length_cons]; omega
        · have := lns_len r (acc ++ [lnF x]) (n + szF (lnF x))
          rw [List.length_append] at this
          simp only [List.length_cons, List.length_nil] at this ⊢
          omega
theorem ext_pre (l : List UInt8) (k : Nat) : (bsL l).extract 0 k = bsL (l.take k) := by
  refine str_ext ?_
  rw [ByteArray.data_extract, Array.toList_extract, List.extract_eq_take_drop]
  simp
theorem Tryz.refAssemble20 (s : ByteArray) (L : List HP) (hs : s.size ≤ 90000) : Con Tryz.prog 6 [.string s] L (Is (.tuple #[.string (bsL (asmF s.data.toList).1), qI (asmF s.data.toList).2.1, qI (asmF s.data.toList).2.2]) L) := by
  have hls := fun L => Tryz.refLines s L hs
  have hlf := lns_len (splL 10 s.data.toList) [] 0
  have hq := (spl_sz 10 s).2.1
  change (linesF s.data.toList).1.length ≤ 0 + (splL 10 s.data.toList).length at hlf
  unfold asmF
  generalize linesF s.data.toList = R at *
  obtain ⟨lf, nf, ef⟩ := R
  dsimp only at hlf
  by_cases he : ef = 0
  · subst he
    rw [if_pos rfl]
    change ∀ L, Con Tryz.prog 17 [.string s] L (Exs (fun y : LsV => .tuple #[.slice y.a y.v.length y.c, qI nf, qI 0]) (fun y => own lvE 59 y.a y.c y.v :: y.A :: L) (fun y => LsW y lf)) at hls
    show Con Tryz.prog 6 [.string s] L (Is (.tuple #[.string (bsL (allB lf lf)), qI 0, qI 0]) L)
    refine con_of Tryz.tysOk Tryz.func6 rfl rfl ?_
    conv => whnf
    repeat' (first
      | ((with_reducible refine Br.ndf ?_ ?_); (focus (first | assumption | omega)); conv => whnf)
      | ((with_reducible refine Nd.mk ?_ ?_); (focus (first | omega | rfl | assumption | (simp; done))); conv => whnf)
      | ((with_reducible refine Cl.exs (hls _) (fun ⟨A, a, c, ys⟩ ⟨e1, e2, e3, e4, e5⟩ => ?_)); conv => whnf))
    dsimp only at e1 e2 e3 e4
    clear hls
    subst e1
    have hN : ys.length ≤ 90001 := by
      have h1 := hlf
      rw [List.length_map] at h1
      omega
    have hput := fun n L h => Tryz.refPut02 n L h
    have hpl := fun w L h h' => Tryz.refPlace a c ys w L (by omega) h h' (okAt rfl e5)
    have hlen : (lnsV ys).length = ys.length := List.length_map _
    conv => whnf
    refine Lp.by2 Tryz.tysOk [9, 8] (fun (i : Nat) (o : ByteArray) => [.int .i64 i, .string o]) (fun i o => own lvE 59 a c ys :: A :: L) (fun i o => (i ≤ ys.length ∧ o.size ≤ 6 * i) ∧ o = bsL (allB (lnsV ys) ((lnsV ys).take i))) (fun i o => ys.length - i) (0) ((⟨#[]⟩ : ByteArray)) (by kernel_rfl) (by (exact Ent.rfl)) (⟨⟨by omega, by decide⟩, rfl⟩) ?_
    rintro i o ⟨⟨g1, g2⟩, g3⟩
    conv => whnf
    repeat (intro _; conv => whnf)
    by_cases hi : i < ys.length
    · have hok := okAt rfl e5 i hi
      have hn1 := hok.len
      have hn2 := hok.most
      have hrn := e4.n i hi
      have hrs := e4.s i hi
      have htk : (lnsV ys).take (i + 1) = (lnsV ys).take i ++ [(ys.getD i lvE.d).l] := by
        rw [List.take_add_one, List.getElem?_eq_getElem (by omega)]
        simp [List.getD, hi]
      conv => whnf
      repeat' ((with_reducible refine Br.yes ?_ ?_); (focus (first | (simp; done) | (simp; omega))); conv => whnf)
      conv => whnf
      refine Lp.by2 Tryz.tysOk [10, 8] (fun (k : Nat) (u : ByteArray) => [.int .i64 k, .string u]) (fun k u => own lvE 59 a c ys :: A :: L) (fun k u => (k ≤ (ys.getD i lvE.d).l.nums.length ∧ u.size ≤ o.size + 2 * k) ∧ u = o ++ bsL (lnB (lnsV ys) (ys.getD i lvE.d).l k)) (fun k u => (ys.getD i lvE.d).l.nums.length - k) (0) (o) (by kernel_rfl) (by (exact Ent.rfl)) (⟨by omega, str_ext (by rw [append_list]; simp [lnB])⟩) ?_
      rintro k u ⟨⟨q1, q2⟩, q3⟩
      conv => whnf
      repeat (intro _; conv => whnf)
      by_cases hk : k < (ys.getD i lvE.d).l.nums.length
      · have hx1 := hok.num _ (getD_mem (d := numE.d) hk)
        have hx2 := hok.sz _ (getD_mem (d := numE.d) (show k < (ys.getD i lvE.d).l.szs.length by omega))
        have step : ∀ N : Int, numAt (lnsV ys) (ys.getD i lvE.d).l k = N → ∃ W : ByteArray, (bsL (p2 N)).extract 0 (Int.toNat ((ys.getD i lvE.d).l.szs.getD k numE.d)) = W ∧ W.size ≤ 2 ∧ u ++ W = o ++ bsL (lnB (lnsV ys) (ys.getD i lvE.d).l (k + 1)) := fun N hN => ⟨_, rfl, by
          rw [ext_pre, bsL_size, List.length_take, p2_len]; omega, by
          rw [ext_pre, lnB, hN, q3]
          exact str_ext (by rw [append_list, append_list, append_list, bsL_list, bsL_list, bsL_list, List.append_assoc]; rfl)⟩
        have hsz2 : (bsL (p2 ((ys.getD i lvE.d).l.nums.getD k numE.d))).size = 2 := rfl
        by_cases hc : (ys.getD i lvE.d).l.nam ≠ noB ∧ k + 1 = (ys.getD i lvE.d).l.nums.length
        · have hpb := plc_bd (ys.getD i lvE.d).l.nam (lnsV ys) 0 (by omega) e5
          obtain ⟨W, w1, w2, w3⟩ := step (plcF (ys.getD i lvE.d).l.nam 0 (lnsV ys)) (by unfold numAt; rw [if_pos hc])
          have hsz3 : (bsL (p2 (plcF (ys.getD i lvE.d).l.nam 0 (lnsV ys)))).size = 2 := rfl
          obtain ⟨hc1, hc2⟩ := hc
          have hc1 : ¬ (ys.getD i lvE.d).l.nam = (⟨#[]⟩ : ByteArray) := hc1
          clear step q3 g3 hok e5
          conv => whnf
          repeat' (first
            | (first | ((with_reducible refine Br.tt ?_); conv => whnf) | ((with_reducible refine Br.dt ?_ ?_); (focus (first | assumption | omega)); conv => whnf) | ((with_reducible refine Br.ndt ?_ ?_); (focus (first | assumption | omega)); conv => whnf))
            | ((with_reducible refine Ar.i64 ?_ ?_); (focus omega); conv => whnf)
            | ((with_reducible refine Nd.mk ?_ ?_); (focus (first | omega | rfl | assumption | (simp; done))); conv => whnf)
            | ((with_reducible refine Ix.ad ?_ ?_ ?_); (focus (first | assumption | exact Rd.ad (by assumption))); (focus (first | omega | ((simp only [List.length_append, List.length_cons, List.length_nil]); omega))); conv => whnf)
            | ((with_reducible refine SubS.pre ?_ ?_); (focus (omega)); conv => whnf)
            | ((first | (with_reducible apply Ld.rdk) | (with_reducible apply Ld.rdk0)); (focus ((repeat (first | exact Rd.hd (by assumption) | ((refine Rd.own 0 rfl ?_); (assumption)) | apply Rd.cons)); done)); (focus rfl); (focus (omega)); (focus rfl); conv => whnf)
            | (first | ((with_reducible refine Cl.is (hpl _ _ (by ((repeat ((refine Rd.own 0 rfl ?_); (assumption))); done)) (by ((repeat (first | assumption | exact LRd.hd (by assumption) | apply LRd.cons | apply LRd.app)); done))) ?_); conv => whnf) | ((with_reducible refine Cl.is (hput _ _ (by omega)) ?_); conv => whnf))
            | ((rw [w1]); conv => whnf))
          all_goals first | (exfalso; omega) | exact ⟨k + 1, u ++ W, by kernel_rfl, by (exact Ent.rfl), ⟨⟨by omega, by rw [app_size]; omega⟩, w3⟩, by omega⟩
        · obtain ⟨W, w1, w2, w3⟩ := step ((ys.getD i lvE.d).l.nums.getD k numE.d) (by unfold numAt; rw [if_neg hc]; rfl)
          have hcb : (ys.getD i lvE.d).l.nam = (⟨#[]⟩ : ByteArray) ∨ (¬ (ys.getD i lvE.d).l.nam = (⟨#[]⟩ : ByteArray) ∧ k + 1 ≠ (ys.getD i lvE.d).l.nums.length) := by
            by_cases hl : (ys.getD i lvE.d).l.nam = noB
            · exact .inl hl
            · exact .inr ⟨hl, fun h => hc ⟨hl, h⟩⟩
          clear step q3 g3 hok e5 hpl hc
          rcases hcb with c1 | ⟨c1, c2⟩
          · conv => whnf
            repeat' (first
              | (first | ((with_reducible refine Br.ff ?_); conv => whnf) | ((with_reducible refine Br.dt ?_ ?_); (focus (first | assumption | omega)); conv => whnf) | ((with_reducible refine Br.ndf ?_ ?_); (focus (first | assumption | omega)); conv => whnf))
              | ((with_reducible refine Ar.i64 ?_ ?_); (focus omega); conv => whnf)
              | ((with_reducible refine Nd.mk ?_ ?_); (focus (first | omega | rfl | assumption | (simp; done))); conv => whnf)
              | ((with_reducible refine Ix.ad ?_ ?_ ?_); (focus (first | assumption | exact Rd.ad (by assumption))); (focus (first | omega | ((simp only [List.length_append, List.length_cons, List.length_nil]); omega))); conv => whnf)
              | ((with_reducible refine SubS.pre ?_ ?_); (focus (omega)); conv => whnf)
              | ((first | (with_reducible apply Ld.rdk) | (with_reducible apply Ld.rdk0)); (focus ((repeat (first | exact Rd.hd (by assumption) | ((refine Rd.own 0 rfl ?_); (assumption)) | apply Rd.cons)); done)); (focus rfl); (focus (omega)); (focus rfl); conv => whnf)
              | ((with_reducible refine Cl.is (hput _ _ (by omega)) ?_); conv => whnf)
              | ((rw [w1]); conv => whnf))
            all_goals first | (exfalso; omega) | exact ⟨k + 1, u ++ W, by kernel_rfl, by (exact Ent.rfl), ⟨⟨by omega, by rw [app_size]; omega⟩, w3⟩, by omega⟩
          · conv => whnf
            repeat' (first
              | (first | ((with_reducible refine Br.tt ?_); conv => whnf) | ((with_reducible refine Br.dt ?_ ?_); (focus (first | assumption | omega)); conv => whnf) | ((with_reducible refine Br.df ?_ ?_); (focus (first | assumption | omega)); conv => whnf) | ((with_reducible refine Br.ndt ?_ ?_); (focus (first | assumption | omega)); conv => whnf))
              | ((with_reducible refine Ar.i64 ?_ ?_); (focus omega); conv => whnf)
              | ((with_reducible refine Nd.mk ?_ ?_); (focus (first | omega | rfl | assumption | (simp; done))); conv => whnf)
              | ((with_reducible refine Ix.ad ?_ ?_ ?_); (focus (first | assumption | exact Rd.ad (by assumption))); (focus (first | omega | ((simp only [List.length_append, List.length_cons, List.length_nil]); omega))); conv => whnf)
              | ((with_reducible refine SubS.pre ?_ ?_); (focus (omega)); conv => whnf)
              | ((first | (with_reducible apply Ld.rdk) | (with_reducible apply Ld.rdk0)); (focus ((repeat (first | exact Rd.hd (by assumption) | ((refine Rd.own 0 rfl ?_); (assumption)) | apply Rd.cons)); done)); (focus rfl); (focus (omega)); (focus rfl); conv => whnf)
              | ((with_reducible refine Cl.is (hput _ _ (by omega)) ?_); conv => whnf)
              | ((rw [w1]); conv => whnf))
            all_goals first | (exfalso; omega) | exact ⟨k + 1, u ++ W, by kernel_rfl, by (exact Ent.rfl), ⟨⟨by omega, by rw [app_size]; omega⟩, w3⟩, by omega⟩
      · have e0 : k = (ys.getD i lvE.d).l.nums.length := by omega
        have eo : u = bsL (allB (lnsV ys) ((lnsV ys).take (i + 1))) := by
          rw [q3, htk, g3, e0]
          exact str_ext (by rw [append_list, bsL_list, bsL_list, bsL_list]; simp [allB])
        clear q3 g3 hok e5 hpl
        conv => whnf
        repeat' (first
          | ((with_reducible refine Br.df ?_ ?_); (focus (first | assumption | omega)); conv => whnf)
          | ((with_reducible refine Ar.i64 ?_ ?_); (focus omega); conv => whnf)
          | ((with_reducible refine Ix.ad ?_ ?_ ?_); (focus (assumption)); (focus ((simp only [List.length_append, List.length_cons, List.length_nil]); omega)); conv => whnf)
          | ((with_reducible apply Ld.rdk); (focus ((repeat ((refine Rd.own 0 rfl ?_); (assumption))); done)); (focus rfl); (focus (omega)); (focus rfl); conv => whnf))
        all_goals first | (exfalso; omega) | exact ⟨i + 1, u, by kernel_rfl, by (exact Ent.rfl), ⟨⟨by omega, by omega⟩, eo⟩, by omega⟩
    · have e0 : i = ys.length := by omega
      subst e0
      rw [List.take_of_length_le (by omega)] at g3
      subst g3
      clear e5 hpl
      conv => whnf
      repeat' ((with_reducible refine Br.no ?_ ?_); (focus (first | (simp; done) | (simp; omega))); conv => whnf)
      all_goals first | (exfalso; omega) | (refine Is.ent ?_ ?_; (focus (refine FEnt.ent ?_; (repeat (first | exact FEnt.rfl | refine FEnt.drop ?_)); done)); (exact Is.rfl))
  · rw [if_neg he]
    change ∀ L, Con Tryz.prog 17 [.string s] L (Exs (fun y : LsV => .tuple #[.slice y.a y.v.length y.c, qI nf, qI ef]) (fun y => own lvE 59 y.a y.c y.v :: y.A :: L) (fun y => LsW y lf)) at hls
    show Con Tryz.prog 6 [.string s] L (Is (.tuple #[.string (bsL []), qI nf, qI ef]) L)
    refine con_of Tryz.tysOk Tryz.func6 rfl rfl ?_
    conv => whnf
    repeat' (first
      | ((with_reducible refine Br.ndt ?_ ?_); (focus (first | assumption | omega)); conv => whnf)
      | ((with_reducible refine Nd.mk ?_ ?_); (focus (first | omega | rfl | assumption | (simp; done))); conv => whnf)
      | ((with_reducible refine Cl.exs (hls _) (fun ⟨A, a, c, ys⟩ ⟨e1, e2, e3, e4, e5⟩ => ?_)); conv => whnf))
    all_goals first | (exfalso; omega) | (refine Is.ent ?_ ?_; (focus (refine FEnt.ent ?_; (repeat (first | exact FEnt.rfl | refine FEnt.drop ?_)); done)); (exact Is.rfl))
end Go.Proofs
