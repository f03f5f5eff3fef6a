/- A program's listing, line by line: contracts. -/
import Derived.Test.YtloaknocdnpedaaGreatDoorDisQ
import Derived.Lib.LastIndexByte
set_option linter.all false
namespace Go.Proofs
open Go.Eng Go.RowKit Go.MapKept
open Classical
set_option linter.unusedVariables false
set_option maxRecDepth 100000
set_option maxHeartbeats 4000000
/-! the last blank -/
theorem bang_at {l : List UInt8} {j : Nat} (h : j < l.length) : (bsL l).data[j]! = l[j] := by
  have h2 : j < (bsL l).data.size := by show j < l.toArray.size; rw [List.size_toArray]; exact h
  rw [getElem!_pos (bsL l).data j h2]
  rfl
theorem last_sp {pre suf : List UInt8} (h : (32 : UInt8) ∉ suf) : Lib.lastIndexByte (bsL (pre ++ 32 :: suf)) 32 = pre.length := by
  have hsz : (bsL (pre ++ 32 :: suf)).size = pre.length + suf.length + 1 := by rw [bsL_size, List.length_append, List.length_cons]; omega
  have hl : (pre ++ 32 :: suf).length = pre.length + suf.length + 1 := by rw [List.length_append, List.length_cons]; omega
  have hp : ((bsL (pre ++ 32 :: suf)).data[pre.length]!).toNat = 32 := by
    rw [bang_at (by omega)]
    simp
  rcases Lib.lastIndexByte_spec (bsL (pre ++ 32 :: suf)) 32 with ⟨h1, h2⟩ | ⟨i, h1, h2, h3, h4⟩
  · exact absurd (by rw [hp]; rfl) (h2 pre.length (by omega))
  · rw [h2]
    rcases Nat.lt_trichotomy i pre.length with hi | hi | hi
    · exact absurd (by rw [hp]; rfl) (h4 pre.length hi (by omega))
    · rw [hi]
    · exfalso
      rw [hsz] at h1
      rw [bang_at (by omega)] at h3
      have e : (pre ++ 32 :: suf)[i]'(by omega) = suf[i - pre.length - 1]'(by omega) := by
        rw [List.getElem_append_right (by omega)]
        rw [List.getElem_cons, dif_neg (by omega)]
      rw [e] at h3
      have h5 : suf[i - pre.length - 1]'(by omega) = 32 := UInt8.toNat_inj.1 (by have : (32 : UInt8).toNat = 32 := rfl; omega)
      exact h (by rw [← h5]; exact List.getElem_mem _)
theorem Tryz.lastIB (s : ByteArray) (L : List HP) (hs : s.size ≤ 1000000) : Con Tryz.prog 33 [.string s, .int .u8 32] L (Is (i64W (Lib.lastIndexByte s 32)) L) :=
  Con.lib ⟨_, Tryz.func33, by kernel_rfl, by kernel_rfl⟩ fun w _ => (Tryz.strings_LastIndexByte s 32 (by omega) w).mono fun e w' h => ⟨by rw [h.1], by rw [h.2]; exact Below.refl _ _⟩
theorem joinW_snoc : ∀ (r : List ByteArray) (w : ByteArray), r ≠ [] → joinW (r ++ [w]) = joinW r ++ 32 :: w.data.toList
  | [], w, h => absurd rfl h
  | [v], w, _ => rfl
  | v :: u :: r, w, _ => by
    have ih := joinW_snoc (u :: r) w (by simp)
    show joinW (v :: u :: (r ++ [w])) = _
    rw [joinW_c, joinW_c]
    rw [show u :: (r ++ [w]) = (u :: r) ++ [w] from rfl, ih, List.append_assoc]
    rfl
def frW (c x : Nat) : List ByteArray := [codeN c] ++ (if c ≠ 0 ∧ c ≠ 15 ∧ c ≠ 11 then [regB x] else [])
theorem ins_front {c x n : Nat} {last : ByteArray} (h : 11 ≤ c ∧ c ≤ 13) : joinW (insWs c x n last) = joinW (frW c x) ++ 32 :: last.data.toList := by
  have e : insWs c x n last = frW c x ++ [last] := by
    unfold insWs frW
    rw [if_neg (show ¬ (2 ≤ c ∧ c ≤ 10) by omega), if_pos (show c ≠ 0 ∧ c ≠ 15 by omega)]
  rw [e]
  exact joinW_snoc _ _ (by unfold frW; simp)
/-! a piece's line -/
theorem pr_one {c x n : Int} (h : mayI c x n) : prF [(c, x, n)] = joinW (insWs c.toNat x.toNat n.toNat (decB n.toNat)) ++ [10] := by
  show (if mayI c x n then inT (c, x, n) else []) ++ [] = _
  rw [if_pos h, List.append_nil]
  rfl
theorem pcT_len {T : Int → Prop} {p : Pc} (h : PcOk p) : (pcT T p).length ≤ 21 := by
  unfold pcT
  by_cases hi : p.i = true
  · rw [if_pos hi]
    have hm := (may_nat (h.ins hi)).1
    refine insWs_len hm ?_
    split
    · have e3 := (may_nat (h.ins hi)).2.2.2
      rw [← e3, nmS_eq hm.2.2.1, bsL_size]
      have := nm_len4 hm.2.2.1
      omega
    · have : (decB p.n.toNat).size ≤ 5 := dec_len 4 _ (by have := hm.2.2.1; omega)
      omega
  · rw [if_neg hi, List.length_append]
    have hf : p.i = false := by cases hq : p.i; rfl; exact absurd hq hi
    have hb := h.byt hf
    have : (Lib.decDigits p.b.toNat).length ≤ 5 := dec_len 4 _ (by omega)
    show 5 + _ ≤ 21
    omega
theorem Tryz.disLine (b : Nat) (m : List (Int × Int)) (p : Pc) (L : List HP) (hp : PcOk p) (hm : ∀ q ∈ m, 1 ≤ q.2) (hG : Tryz.Gk L) :
    Con Tryz.prog 15 [pcV p, .map (some b)] (mapH b (.int .i64) (tbV m) :: L) (Is (.string (bsL (pcT (fun n => n ∈ m.map (·.1)) p ++ [10]))) (mapH b (.int .i64) (tbV m) :: L)) := by
  have hgo := fun L => Tryz.disGoes p L
  have hpl := pcT_len (T := fun n => n ∈ m.map (·.1)) hp
  obtain ⟨a, i, c, x, n, bb⟩ := p
  cases i with
  | false =>
    have hb := hp.byt rfl
    dsimp only at hb
    have hit : ∀ L, Tryz.Gk L → Con Tryz.prog 31 [.int .i64 bb] L (Is (.string (decB bb.toNat)) L) := fun L h => by
      have := Tryz.itoa bb (by omega) L h
      rw [itoa_nat hb.1] at this
      exact this
    have e : bsL (pcT (fun n => n ∈ m.map (·.1)) ⟨a, false, c, x, n, bb⟩ ++ [10]) = (⟨#[98, 121, 116, 101, 32]⟩ : ByteArray) ++ decB bb.toNat ++ (⟨#[10]⟩ : ByteArray) := str_ext (by rw [append_list, append_list]; rfl)
    have z0 : (decB bb.toNat).size ≤ 5 := dec_len 4 _ (by omega)
    have z1 : (⟨#[98, 121, 116, 101, 32]⟩ : ByteArray).size = 5 := rfl
    have z2 : ((⟨#[98, 121, 116, 101, 32]⟩ : ByteArray) ++ decB bb.toNat).size ≤ 10 := by rw [app_size]; omega
    have z3 : (⟨#[10]⟩ : ByteArray).size = 1 := rfl
    rw [e]
    clear e hgo hpl hp
    refine con_of Tryz.tysOk Tryz.func15 rfl rfl ?_
    conv => whnf
    repeat' (first
      | ((with_reducible refine Br.nf ?_); conv => whnf)
      | ((with_reducible refine Nd.mk ?_ ?_); (focus (first | omega | rfl | assumption | (simp; done))); conv => whnf)
      | ((with_reducible refine Nc.go' (fun _ => ?_)); conv => whnf)
      | (refine Ld.at 0 rfl rfl ?_; conv => whnf)
      | ((with_reducible refine (?_ : Cl _ 31 _ _ _ _)); (refine Cl.is (hit _ (by ((repeat (first | assumption | apply Tryz.gkCons | apply Tryz.gkApp)); done))) ?_); conv => whnf))
    all_goals first | (exfalso; omega) | (refine Is.ent ?_ ?_; (focus (refine FEnt.ent ?_; (repeat (first | exact FEnt.rfl | (refine FEnt.at 1 rfl ?_; (try simp only [List.eraseIdx_cons_zero, List.eraseIdx_cons_succ, List.eraseIdx_zero, List.tail_cons])) | refine FEnt.drop ?_)); done)); (exact Is.rfl))
  | true =>
    have hmy := hp.ins rfl
    dsimp only at hmy
    have hmn := may_nat hmy
    have hpr : ∀ a L, Rd inE L a [(c, x, n)] → Tryz.Gk L → Con Tryz.prog 32 [.slice a 1 1] L (Is (.string (bsL (joinW (insWs c.toNat x.toNat n.toNat (decB n.toNat)) ++ [10]))) L) := fun a L h hg => by
      have := Tryz.asmPrint a 1 [(c, x, n)] L h (by simp) (fun y hy => by rw [List.mem_singleton.1 hy]; exact ⟨hmy.1, by have := hmy.2.1; show c ≤ 255; omega⟩) hg
      rw [pr_one hmy] at this
      exact this
    by_cases hg : goesP ⟨a, true, c, x, n, bb⟩
    · have hgo := fun L => Con.dt hg (hgo L)
      by_cases ht : n ∈ m.map (·.1)
      · obtain ⟨j, v, d1, d2⟩ := tb_some ht
        have hv := hm _ (List.mem_of_getElem? d1)
        dsimp only at hv
        have hc : 11 ≤ c.toNat ∧ c.toNat ≤ 13 := by have := hg.2; dsimp only at this; omega
        have e0 : pcT (fun n => n ∈ m.map (·.1)) ⟨a, true, c, x, n, bb⟩ = joinW (insWs c.toNat x.toNat n.toNat (nmS n)) := by
          unfold pcT
          rw [if_pos rfl]
          dsimp only
          rw [if_pos ⟨hg, ht⟩]
        rw [ins_front hc] at hpr e0
        have hln : (joinW (frW c.toNat x.toNat)).length ≤ 21 := by
          rw [e0, List.length_append] at hpl
          omega
        have hzn : (nmS n).size ≤ 21 := by
          rw [e0, List.length_append, List.length_cons, size_list] at hpl
          omega
        have hzd : (Lib.decDigits n.toNat).length ≤ 5 := dec_len 4 _ (by have := hmn.1.2.2.1; omega)
        have hno : (32 : UInt8) ∉ Lib.decDigits n.toNat ++ [10] := fun hc => by
          rcases List.mem_append.1 hc with hc | hc
          · exact (dec_no _).1 hc
          · exact absurd (List.mem_singleton.1 hc) (by decide)
        rw [e0]
        generalize joinW (frW c.toNat x.toNat) = F at *
        have eS : F ++ 32 :: (decB n.toNat).data.toList ++ [10] = F ++ 32 :: (Lib.decDigits n.toNat ++ [10]) := by rw [List.append_assoc]; rfl
        rw [eS] at hpr
        have hla := fun L => Tryz.lastIB (bsL (F ++ 32 :: (Lib.decDigits n.toNat ++ [10]))) L (by rw [bsL_size, List.length_append, List.length_cons, List.length_append]; simp only [List.length_cons, List.length_nil]; omega)
        rw [last_sp hno] at hla
        have hnm := fun L => Tryz.disName n L
        have hS : (bsL (F ++ 32 :: (Lib.decDigits n.toNat ++ [10]))).size = F.length + (Lib.decDigits n.toNat).length + 2 := by rw [bsL_size, List.length_append, List.length_cons, List.length_append]; simp only [List.length_cons, List.length_nil]; omega
        have hx1 : (bsL (F ++ 32 :: (Lib.decDigits n.toNat ++ [10]))).extract 0 (Int.toNat ((F.length : Int) + 1)) = bsL (F ++ [32]) := by
          rw [ext_pre]
          congr 1
          rw [show Int.toNat ((F.length : Int) + 1) = F.length + 1 by omega, List.take_append, List.take_of_length_le (by omega), show F.length + 1 - F.length = 1 by omega]
          rfl
        have hz1 : ((bsL (F ++ 32 :: (Lib.decDigits n.toNat ++ [10]))).extract 0 (Int.toNat ((F.length : Int) + 1))).size = F.length + 1 := by rw [hx1, bsL_size, List.length_append]; rfl
        have hz2 : ((bsL (F ++ 32 :: (Lib.decDigits n.toNat ++ [10]))).extract 0 (Int.toNat ((F.length : Int) + 1)) ++ nmS n).size ≤ 50 := by rw [app_size, hz1]; omega
        have hz3 : (⟨#[10]⟩ : ByteArray).size = 1 := rfl
        have hx2 : bsL (F ++ 32 :: (nmS n).data.toList ++ [10]) = (bsL (F ++ 32 :: (Lib.decDigits n.toNat ++ [10]))).extract 0 (Int.toNat ((F.length : Int) + 1)) ++ nmS n ++ (⟨#[10]⟩ : ByteArray) := by
          rw [hx1]
          refine str_ext ?_
          rw [append_list, append_list, bsL_list, bsL_list]
          simp
        rw [hx2]
        clear hx1 hx2 e0 eS hp hmn hmy hno hpl ht hg hc hm d1
        generalize bsL (F ++ 32 :: (Lib.decDigits n.toNat ++ [10])) = S at *
        refine con_of Tryz.tysOk Tryz.func15 rfl rfl ?_
        conv => whnf
        repeat' (first
          | (first | ((with_reducible refine Br.tt ?_); conv => whnf) | ((with_reducible refine Br.nt ?_); conv => whnf) | ((with_reducible refine Br.dt ?_ ?_); (focus (first | assumption | omega)); conv => whnf))
          | ((with_reducible refine Ar.i64 ?_ ?_); (focus omega); conv => whnf)
          | ((with_reducible refine Nd.mk ?_ ?_); (focus (first | omega | rfl | assumption | (simp; done))); conv => whnf)
          | ((with_reducible refine Nc.go' (fun _ => ?_)); conv => whnf)
          | ((with_reducible refine SubS.pre ?_ ?_); (focus (omega)); conv => whnf)
          | (first | (refine Ld.at 0 rfl rfl ?_; conv => whnf) | (refine Ld.at 1 rfl rfl ?_; conv => whnf))
          | (first | (refine LdN.at 0 rfl (by first | exact Nat.le_of_ble_eq_true rfl | (simp; done)) ?_; conv => whnf) | (refine LdN.at 1 rfl (by first | exact Nat.le_of_ble_eq_true rfl | (simp; done)) ?_; conv => whnf))
          | ((with_reducible refine Dr.by (id := 6) Tryz.tysOk rfl [(0, 0), (1, 0), (2, 0), (3, 0), (4, 0), (5, 0), (6, 1), (7, 1), (8, 0), (9, 0), (10, 0)] ?_ ?_); (focus kernel_rfl); conv => whnf)
          | ((with_reducible refine (?_ : Sm _ (Instr.lookup _ _ _ _) _ _)); (refine Sm.lkYes Tryz.tysOk 2 rfl rfl rfl rfl rfl (by first | exact rfl | exact trivial) _ (d2) ?_; conv => whnf))
          | ((with_reducible refine CD.is (fun M => hnm _) ?_); conv => whnf)
          | (first | ((with_reducible refine (?_ : Cl _ 32 _ _ _ _)); (refine Cl.is (hpr _ _ (Rd.ptc 0 rfl [(c, x, n)] rfl) (by ((repeat (first | assumption | apply Tryz.gkCons | apply Tryz.gkApp)); done))) ?_); conv => whnf) | ((with_reducible refine (?_ : Cl _ 29 _ _ _ _)); (refine Cl.is (hgo _) ?_); conv => whnf) | ((with_reducible refine (?_ : Cl _ 33 _ _ _ _)); (refine Cl.is (hla _) ?_); conv => whnf)))
        all_goals first | (exfalso; omega) | (refine Is.ent ?_ ?_; (focus (refine FEnt.ent ?_; (repeat (first | exact FEnt.rfl | (refine FEnt.at 2 rfl ?_; (try simp only [List.eraseIdx_cons_zero, List.eraseIdx_cons_succ, List.eraseIdx_zero, List.tail_cons])) | refine FEnt.drop ?_)); done)); (exact Is.rfl))
      · have d2 := tb_none ht
        have e0 : pcT (fun n => n ∈ m.map (·.1)) ⟨a, true, c, x, n, bb⟩ = joinW (insWs c.toNat x.toNat n.toNat (decB n.toNat)) := by
          unfold pcT
          rw [if_pos rfl]
          dsimp only
          rw [if_neg (fun h => ht h.2)]
        rw [e0]
        clear e0 hpl hp hmn hmy ht hg hm
        refine con_of Tryz.tysOk Tryz.func15 rfl rfl ?_
        conv => whnf
        repeat' (first
          | (first | ((with_reducible refine Br.tt ?_); conv => whnf) | ((with_reducible refine Br.nt ?_); conv => whnf) | ((with_reducible refine Br.df ?_ ?_); (focus (first | assumption | omega)); conv => whnf))
          | ((with_reducible refine Nc.go' (fun _ => ?_)); conv => whnf)
          | (first | (refine Ld.at 0 rfl rfl ?_; conv => whnf) | (refine Ld.at 1 rfl rfl ?_; conv => whnf))
          | (first | (refine LdN.at 0 rfl (by first | exact Nat.le_of_ble_eq_true rfl | (simp; done)) ?_; conv => whnf) | (refine LdN.at 1 rfl (by first | exact Nat.le_of_ble_eq_true rfl | (simp; done)) ?_; conv => whnf))
          | ((with_reducible refine (?_ : Sm _ (Instr.lookup _ _ _ _) _ _)); (refine Sm.lkNo Tryz.tysOk 2 rfl rfl rfl rfl rfl rfl (by first | exact rfl | exact trivial) (d2) ?_; conv => whnf))
          | (first | ((with_reducible refine (?_ : Cl _ 32 _ _ _ _)); (refine Cl.is (hpr _ _ (Rd.ptc 0 rfl [(c, x, n)] rfl) (by ((repeat (first | assumption | apply Tryz.gkCons | apply Tryz.gkApp)); done))) ?_); conv => whnf) | ((with_reducible refine (?_ : Cl _ 29 _ _ _ _)); (refine Cl.is (hgo _) ?_); conv => whnf)))
        all_goals first | (exfalso; omega) | (refine Is.ent ?_ ?_; (focus (refine FEnt.ent ?_; (repeat (first | exact FEnt.rfl | (refine FEnt.at 2 rfl ?_; (try simp only [List.eraseIdx_cons_zero, List.eraseIdx_cons_succ, List.eraseIdx_zero, List.tail_cons])) | refine FEnt.drop ?_)); done)); (exact Is.rfl))
    · have hgo := fun L => Con.df hg (hgo L)
      have e0 : pcT (fun n => n ∈ m.map (·.1)) ⟨a, true, c, x, n, bb⟩ = joinW (insWs c.toNat x.toNat n.toNat (decB n.toNat)) := by
        unfold pcT
        rw [if_pos rfl]
        dsimp only
        rw [if_neg (fun h => hg h.1)]
      rw [e0]
      clear e0 hpl hp hmn hmy hg hm
      refine con_of Tryz.tysOk Tryz.func15 rfl rfl ?_
      conv => whnf
      repeat' (first
        | (first | ((with_reducible refine Br.ff ?_); conv => whnf) | ((with_reducible refine Br.nt ?_); conv => whnf))
        | ((with_reducible refine Nc.go' (fun _ => ?_)); conv => whnf)
        | (refine Ld.at 0 rfl rfl ?_; conv => whnf)
        | (first | (refine LdN.at 0 rfl (by first | exact Nat.le_of_ble_eq_true rfl | (simp; done)) ?_; conv => whnf) | (refine LdN.at 1 rfl (by first | exact Nat.le_of_ble_eq_true rfl | (simp; done)) ?_; conv => whnf))
        | (first | ((with_reducible refine (?_ : Cl _ 32 _ _ _ _)); (refine Cl.is (hpr _ _ (Rd.ptc 0 rfl [(c, x, n)] rfl) (by ((repeat (first | assumption | apply Tryz.gkCons | apply Tryz.gkApp)); done))) ?_); conv => whnf) | ((with_reducible refine (?_ : Cl _ 29 _ _ _ _)); (refine Cl.is (hgo _) ?_); conv => whnf)))
      all_goals first | (exfalso; omega) | (refine Is.ent ?_ ?_; (focus (refine FEnt.ent ?_; (repeat (first | exact FEnt.rfl | (refine FEnt.at 2 rfl ?_; (try simp only [List.eraseIdx_cons_zero, List.eraseIdx_cons_succ, List.eraseIdx_zero, List.tail_cons])) | refine FEnt.drop ?_)); done)); (exact Is.rfl))
/-! the listing -/
theorem lstT_cons (T : Int → Prop) (e : Int) (p : Pc) (l : List Pc) : lstT T e (p :: l) = (if T p.a then (nmS p.a).data.toList ++ [58, 10] else []) ++ ((pcT T p ++ [10]) ++ lstT T e l) := by
  unfold lstT
  rw [lst_cons, List.flatMap_append, List.flatMap_cons]
  congr 1
  split
  · rw [List.flatMap_singleton]
    show ((nmS p.a).data.toList ++ [58]) ++ [10] = _
    rw [List.append_assoc]
    rfl
  · rfl
theorem lstT_nil (T : Int → Prop) (e : Int) : lstT T e [] = if T e then (nmS e).data.toList ++ [58, 10] else [] := by
  unfold lstT
  rw [lst_nil]
  split
  · rw [List.flatMap_singleton]
    show ((nmS e).data.toList ++ [58]) ++ [10] = _
    rw [List.append_assoc]
    rfl
  · rfl
theorem nmS_sz {n : Int} (h : 0 ≤ n ∧ n ≤ 65535) : (nmS n).size ≤ 4 := by
  obtain ⟨k, rfl⟩ : ∃ k : Nat, n = k := ⟨n.toNat, by omega⟩
  rw [nmS_eq (by omega), bsL_size]
  exact nm_len4 (by omega)
theorem Tryz.disListingG (s : ByteArray) (L : List HP) (hs : s.size ≤ 1024) (hG : Tryz.Gk L) : Con Tryz.prog 5 [.string s] L (Is (.tuple #[.string (bsL (lstT (tgt (cutF s 0) s.size) s.size (cutF s 0))), i64W 0]) L) := by
  have hch := cut_chn s s.size 0 (by omega)
  have hcu := fun L => Tryz.disCut s L (by omega)
  have hll : (cutF s 0).length ≤ s.size := by
    have key : ∀ (l : List Pc) (k : Nat), chn s.size k l → k + l.length ≤ s.size := by
      intro l
      induction l with
      | nil => intro k h; exact chn_le h
      | cons p l ih =>
        intro k h
        have := ih _ h.2.2
        have := pcZ'_pos p
        rw [List.length_cons]
        omega
    have := key _ 0 hch
    omega
  generalize cutF s 0 = l at *
  have hta := fun a c L h => Tryz.disTargetsG a c l s.size L h (by omega) (by omega) hch
  have hT : (fun n => n ∈ tkF (bgP l s.size) [] l) = tgt l s.size := funext fun n => propext (tk_tgt l s.size n)
  generalize tkF (bgP l s.size) [] l = K at *
  rw [← hT]
  obtain ⟨ca, _⟩ := chn_a hch
  have hok := chn_ok hch
  have hze := nmS_sz (n := (s.size : Int)) (by omega)
  clear hT hch
  refine con_of Tryz.tysOk Tryz.func5 rfl rfl ?_
  conv => whnf
  repeat' (first
    | ((with_reducible refine Br.df ?_ ?_); (focus (first | assumption | omega)); conv => whnf)
    | ((with_reducible refine Nc.go' (fun _ => ?_)); conv => whnf)
    | (first | ((with_reducible refine (?_ : Cl _ 12 _ _ _ _)); (refine Cl.new (hcu _) (fun _ _ _ _ => ?_)); conv => whnf) | ((with_reducible refine Cl.exs (hta _ _ _ (by ((repeat ((refine Rd.own 0 rfl ?_); (assumption))); done))) (fun ⟨b, m⟩ ⟨hk1, hk2⟩ => ?_)); conv => whnf)))
  all_goals try (exfalso; omega)
  rename_i a c hc had y5 hy5 b6
  clear hy5
  dsimp only at hk1 hk2
  subst hk1
  clear hta hcu
  conv => whnf
  refine Lp.by2 Tryz.tysOk [20] (fun (k : Nat) (xs : List UInt8) => [.int .i64 k]) (fun k xs => Tryz.bldH b6 xs :: mapH b (.int .i64) (tbV m) :: own pcE 48 a c l :: L) (fun k xs => (k ≤ l.length ∧ xs.length ≤ 40 * k) ∧ xs ++ lstT (fun n => n ∈ m.map (·.1)) s.size (l.drop k) = lstT (fun n => n ∈ m.map (·.1)) s.size l) (fun k xs => l.length - k) (0) ([]) (by kernel_rfl) (by (refine FEnt.ent ?_; (repeat (first | exact FEnt.rfl | (apply Tryz.bldShutN))); done)) (⟨⟨by omega, by simp⟩, rfl⟩) ?_
  rintro k xs ⟨⟨g1, g2⟩, g3⟩
  conv => whnf
  repeat (intro _; conv => whnf)
  have hw2 : (⟨#[58, 10]⟩ : ByteArray).size = 2 := rfl
  by_cases hk : k < l.length
  · have hp := hok _ (getD_mem (d := pcE.d) hk)
    have hpa := ca _ (getD_mem (d := pcE.d) hk)
    have hli := fun M h => Tryz.disLine b m (l.getD k pcE.d) M hp hk2 h
    have hpl := pcT_len (T := fun n => n ∈ m.map (·.1)) hp
    rw [pc_drop hk, lstT_cons] at g3
    have hzl : (bsL (pcT (fun n => n ∈ m.map (·.1)) (l.getD k pcE.d) ++ [10])).size ≤ 22 := by rw [bsL_size, List.length_append]; simp only [List.length_cons, List.length_nil]; omega
    have hzl2 : (bsL (pcT (fun n => n ∈ m.map (·.1)) (l.getD k pcE.d) ++ [10])).data.toList = pcT (fun n => n ∈ m.map (·.1)) (l.getD k pcE.d) ++ [10] := rfl
    rw [← hzl2] at g3
    clear hok ca hp hzl2 hpl
    generalize bsL (pcT (fun n => n ∈ m.map (·.1)) (l.getD k pcE.d) ++ [10]) = W at *
    have hzw := size_list W
    by_cases ht : (l.getD k pcE.d).a ∈ m.map (·.1)
    · rw [if_pos ht, ← List.append_assoc, ← List.append_assoc] at g3
      obtain ⟨j, v, d1, d2⟩ := tb_some ht
      have hv := hk2 _ (List.mem_of_getElem? d1)
      dsimp only at hv
      have hnm := fun L => Tryz.disName (l.getD k pcE.d).a L
      have hzn := nmS_sz (n := (l.getD k pcE.d).a) (by omega)
      have hE : (nmS (l.getD k pcE.d).a ++ (⟨#[58, 10]⟩ : ByteArray)).data.toList = (nmS (l.getD k pcE.d).a).data.toList ++ [58, 10] := by rw [append_list]
      have hz3 : (nmS (l.getD k pcE.d).a ++ (⟨#[58, 10]⟩ : ByteArray)).size ≤ 6 := by rw [app_size]; omega
      rw [← hE] at g3
      have hz4 := size_list (nmS (l.getD k pcE.d).a ++ (⟨#[58, 10]⟩ : ByteArray))
      have hz5 : (xs ++ (nmS (l.getD k pcE.d).a ++ (⟨#[58, 10]⟩ : ByteArray)).data.toList).length ≤ 40 * k + 6 := by rw [List.length_append]; omega
      clear ht d1 hE
      conv => whnf
      repeat' (first
        | ((with_reducible refine Br.dt ?_ ?_); (focus (first | assumption | omega)); conv => whnf)
        | ((with_reducible refine Ar.i64 ?_ ?_); (focus omega); conv => whnf)
        | ((with_reducible refine Nd.mk ?_ ?_); (focus (first | omega | rfl | assumption | (simp; done))); conv => whnf)
        | ((with_reducible refine Nc.go' (fun _ => ?_)); conv => whnf)
        | ((with_reducible refine Ix.ad ?_ ?_ ?_); (focus (assumption)); (focus (omega)); conv => whnf)
        | (refine Ld.at 0 rfl rfl ?_; conv => whnf)
        | (first | ((with_reducible apply LdN.rdk); (focus ((repeat ((refine Rd.own 2 rfl ?_); (assumption))); done)); (focus rfl); (focus rfl); (focus (omega)); conv => whnf) | (refine LdN.at 0 rfl (by first | exact Nat.le_of_ble_eq_true rfl | (simp; done)) ?_; conv => whnf))
        | (refine St.at 0 rfl (by first | exact Nat.le_of_ble_eq_true rfl | (simp; done)) rfl ?_; conv => whnf)
        | ((with_reducible refine (?_ : Sm _ (Instr.lookup _ _ _ _) _ _)); (refine Sm.lkYes Tryz.tysOk 2 rfl rfl rfl rfl rfl (by first | exact rfl | exact trivial) _ (d2) ?_; conv => whnf))
        | (first | ((with_reducible refine (?_ : Cl _ 11 _ _ _ _)); (refine Cl.is (hnm _) ?_); conv => whnf) | ((with_reducible refine (?_ : Cl _ 15 _ _ _ _)); (refine Cl.isAt 2 rfl (hli _ (by ((repeat (first | assumption | apply Tryz.gkCons | apply Tryz.gkApp)); done))) ?_); conv => whnf) | ((refine Cl.isAt 1 rfl (Tryz.bldWrite b6 _ _ _ (by omega)) ?_); conv => whnf)))
      all_goals first | (exfalso; omega) | exact ⟨k + 1, xs ++ (nmS (l.getD k pcE.d).a ++ (⟨#[58, 10]⟩ : ByteArray)).data.toList ++ W.data.toList, by kernel_rfl, by (refine FEnt.ent ?_; (repeat (first | exact FEnt.rfl | (refine FEnt.at 1 rfl ?_; (try simp only [List.eraseIdx_cons_zero, List.eraseIdx_cons_succ, List.eraseIdx_zero, List.tail_cons])) | refine FEnt.drop ?_)); done), ⟨⟨by omega, by rw [List.length_append]; omega⟩, by rw [← g3]⟩, by omega⟩
    · rw [if_neg ht, List.nil_append, ← List.append_assoc] at g3
      have d2 := tb_none ht
      clear ht
      conv => whnf
      repeat' (first
        | (first | ((with_reducible refine Br.dt ?_ ?_); (focus (first | assumption | omega)); conv => whnf) | ((with_reducible refine Br.df ?_ ?_); (focus (first | assumption | omega)); conv => whnf))
        | ((with_reducible refine Ar.i64 ?_ ?_); (focus omega); conv => whnf)
        | ((with_reducible refine Nd.mk ?_ ?_); (focus (first | omega | rfl | assumption | (simp; done))); conv => whnf)
        | ((with_reducible refine Nc.go' (fun _ => ?_)); conv => whnf)
        | ((with_reducible refine Ix.ad ?_ ?_ ?_); (focus (assumption)); (focus (omega)); conv => whnf)
        | (refine Ld.at 0 rfl rfl ?_; conv => whnf)
        | (first | ((with_reducible apply LdN.rdk); (focus ((repeat ((refine Rd.own 2 rfl ?_); (assumption))); done)); (focus rfl); (focus rfl); (focus (omega)); conv => whnf) | (refine LdN.at 0 rfl (by first | exact Nat.le_of_ble_eq_true rfl | (simp; done)) ?_; conv => whnf))
        | (refine St.at 0 rfl (by first | exact Nat.le_of_ble_eq_true rfl | (simp; done)) rfl ?_; conv => whnf)
        | ((with_reducible refine (?_ : Sm _ (Instr.lookup _ _ _ _) _ _)); (refine Sm.lkNo Tryz.tysOk 2 rfl rfl rfl rfl rfl rfl (by first | exact rfl | exact trivial) (d2) ?_; conv => whnf))
        | (first | ((with_reducible refine (?_ : Cl _ 15 _ _ _ _)); (refine Cl.isAt 2 rfl (hli _ (by ((repeat (first | assumption | apply Tryz.gkCons | apply Tryz.gkApp)); done))) ?_); conv => whnf) | ((refine Cl.isAt 1 rfl (Tryz.bldWrite b6 _ _ _ (by omega)) ?_); conv => whnf)))
      all_goals first | (exfalso; omega) | exact ⟨k + 1, xs ++ W.data.toList, by kernel_rfl, by (refine FEnt.ent ?_; (repeat (first | exact FEnt.rfl | (refine FEnt.at 1 rfl ?_; (try simp only [List.eraseIdx_cons_zero, List.eraseIdx_cons_succ, List.eraseIdx_zero, List.tail_cons])) | refine FEnt.drop ?_)); done), ⟨⟨by omega, by rw [List.length_append]; omega⟩, g3⟩, by omega⟩
  · rw [List.drop_eq_nil_of_le (by omega), lstT_nil] at g3
    clear ca hok
    by_cases ht : (s.size : Int) ∈ m.map (·.1)
    · rw [if_pos ht] at g3
      obtain ⟨j, v, d1, d2⟩ := tb_some ht
      have hv := hk2 _ (List.mem_of_getElem? d1)
      dsimp only at hv
      have hnm := fun L => Tryz.disName (s.size : Int) L
      have hE : (nmS (s.size : Int) ++ (⟨#[58, 10]⟩ : ByteArray)).data.toList = (nmS (s.size : Int)).data.toList ++ [58, 10] := by rw [append_list]
      have hz3 : (nmS (s.size : Int) ++ (⟨#[58, 10]⟩ : ByteArray)).size ≤ 6 := by rw [app_size]; omega
      rw [← hE] at g3
      rw [← g3]
      clear ht d1 hE g3
      conv => whnf
      repeat' (first
        | (first | ((with_reducible refine Br.dt ?_ ?_); (focus (first | assumption | omega)); conv => whnf) | ((with_reducible refine Br.df ?_ ?_); (focus (first | assumption | omega)); conv => whnf))
        | ((with_reducible refine Nd.mk ?_ ?_); (focus (first | omega | rfl | assumption | (simp; done))); conv => whnf)
        | ((with_reducible refine (?_ : Sm _ (Instr.lookup _ _ _ _) _ _)); (refine Sm.lkYes Tryz.tysOk 1 rfl rfl rfl rfl rfl (by first | exact rfl | exact trivial) _ (d2) ?_; conv => whnf))
        | (first | ((with_reducible refine (?_ : Cl _ 11 _ _ _ _)); (refine Cl.is (hnm _) ?_); conv => whnf) | ((refine Cl.isAt 0 rfl (Tryz.bldWrite b6 _ _ _ (by omega)) ?_); conv => whnf) | ((with_reducible refine Cl.is (Tryz.bldString b6 _ _) ?_); conv => whnf)))
      all_goals first | (exfalso; omega) | (refine Is.ent ?_ ?_; (focus (refine FEnt.ent ?_; (repeat (first | exact FEnt.rfl | refine FEnt.drop ?_)); done)); (exact Is.rfl))
    · rw [if_neg ht, List.append_nil] at g3
      subst g3
      have d2 := tb_none ht
      clear ht
      conv => whnf
      repeat' (first
        | ((with_reducible refine Br.df ?_ ?_); (focus (first | assumption | omega)); conv => whnf)
        | ((with_reducible refine (?_ : Sm _ (Instr.lookup _ _ _ _) _ _)); (refine Sm.lkNo Tryz.tysOk 1 rfl rfl rfl rfl rfl rfl (by first | exact rfl | exact trivial) (d2) ?_; conv => whnf))
        | ((with_reducible refine Cl.is (Tryz.bldString b6 _ _) ?_); conv => whnf))
      all_goals first | (exfalso; omega) | (refine Is.ent ?_ ?_; (focus (refine FEnt.ent ?_; (repeat (first | exact FEnt.rfl | refine FEnt.drop ?_)); done)); (exact Is.rfl))
theorem Tryz.disListingNo (s : ByteArray) (L : List HP) (hs : 1024 < s.size) : Con Tryz.prog 5 [.string s] L (Is (.tuple #[.string ⟨#[]⟩, i64W 4]) L) := by
  refine con_of Tryz.tysOk Tryz.func5 rfl rfl ?_
  conv => whnf
  repeat' ((with_reducible refine Br.dt ?_ ?_); (focus (first | assumption | omega)); conv => whnf)
  all_goals first | (exfalso; omega) | (refine Is.ent ?_ ?_; (focus (exact Ent.rfl)); (exact Is.rfl))
end Go.Proofs
