/- The assembler: all lines of a text: the walk. -/
import Derived.Test.YtloaknocdnpedaaDoorAsmN
set_option linter.all false
namespace Go.Proofs
open Go.Eng Go.RowKit Go.MapKept
open Classical
set_option linter.unusedVariables false
set_option maxRecDepth 100000
set_option maxHeartbeats 4000000
theorem val_sz (l : Ln) (w : ByteArray) : sumI (valF l w).szs = sumI l.szs + 2 := by
  unfold valF
  split
  · show sumI (l.szs ++ [2]) = _; rw [sumI_app]; rfl
  · show sumI (l.szs ++ [2]) = _; rw [sumI_app]; rfl
theorem nam_sz (l : List UInt8) : (lnF l).nam ≠ noB → 2 ≤ szF (lnF l) := by
  intro h
  have hb : (badL).nam = noB := rfl
  unfold lnF at h ⊢
  split at h
  · exact absurd rfl h
  · rename_i h0
    rw [if_neg h0]
    unfold wlnF at h ⊢
    split at h
    · exact absurd rfl h
    · rename_i h1
      rw [if_neg h1]
      split at h
      · exact absurd rfl h
      · rename_i h2
        rw [if_neg h2]
        split at h
        · rename_i h3
          rw [if_pos h3]
          show 2 ≤ sumI (valF nilL _).szs
          rw [val_sz]
          exact Int.le_refl _
        · rename_i h3
          rw [if_neg h3]
          split at h
          · rename_i h4
            rw [if_pos h4]
            unfold insF at h ⊢
            split at h
            · rename_i h5
              rw [if_pos h5]
              split at h
              · rename_i h6
                rw [if_pos h6]
                show 2 ≤ sumI (valF _ _).szs
                rw [val_sz]
                show 2 ≤ sumI [1, 1] + 2
                decide
              · exact absurd rfl h
            · rename_i h5
              rw [if_neg h5]
              split at h
              · rename_i h6
                rw [if_pos h6]
                split at h
                · rename_i h7
                  rw [if_pos h7]
                  show 2 ≤ sumI (valF _ _).szs
                  rw [val_sz]
                  show 2 ≤ sumI [1, 1] + 2
                  decide
                · exact absurd rfl h
              · rename_i h6
                rw [if_neg h6]
                split at h
                · rename_i h7
                  rw [if_pos h7]
                  split at h
                  · exact absurd rfl h
                  · rename_i h8
                    rw [if_neg h8]
                    split at h
                    · exact absurd rfl h
                    · rename_i h9
                      rw [if_neg h9]
                      show 2 ≤ sumI (valF _ _).szs
                      rw [val_sz]
                      show 2 ≤ sumI [1, 1] + 2
                      decide
                · exact absurd rfl h
          · exact absurd rfl h
theorem Tryd.asmText (o : Nat) (s : ByteArray) (L : List HP) (R0 : TxR) (hs : s.size ≤ 90000) (hM : Tryd.Mx L) (hR : txF ⟨[], [], [], 0⟩ (splL 10 s.data.toList) = R0) :
    Con Tryd.prog 34 [p64 o, .string s] (Tryd.asmH o ⟨[], [], [], 0⟩ :: L) (Tryd.TxP o L R0) := by
  obtain ⟨q1, q2, q3⟩ := spl_sz 10 s
  have hsp : ∀ L, Tryd.Mx L → Con Tryd.prog 44 [.string s, .string ⟨#[10]⟩] L (New strE 9 ((splL 10 s.data.toList).map bsL) L) := fun L h => by
    have := Tryd.splitS s ⟨#[10]⟩ L (by omega) (by decide) h
    rw [split_any] at this
    exact this
  generalize splL 10 s.data.toList = qs at *
  have hwl : (qs.map bsL).length = qs.length := List.length_map _
  have hwa := fun k (hk : k < qs.length) => nl_at (qs := qs) hk
  generalize qs.map bsL = ws at *
  refine Tryd.asmOpen ⟨_, Tryd.func34, by kernel_rfl, by kernel_rfl⟩ fun a c mb a' c' v1 v2 v3 v4 => ?_
  refine con_rec Tryd.tysOk Tryd.func34 rfl rfl (T := 37) (flt := Tryd.fltV) rfl rfl rfl rfl rfl rfl rfl rfl (enters_of Tryd.func43 (by kernel_rfl) rfl) (fun b L w s => Tryd.recIdle b L w s) (fun b e x M w s => Tryd.recPan b e x M w s) (by exact Nat.le_of_ble_eq_true rfl) (by exact Nat.le_of_ble_eq_true rfl) ?_ (fun b => ?_)
  · skip
    conv => whnf
    repeat' ((with_reducible refine Nc.go' (fun _ => ?_)); conv => whnf)
    all_goals exact ⟨rfl, _, rfl, rfl⟩
  · skip
    conv => whnf
    repeat' ((with_reducible refine Cl.new (hsp _ (by ((repeat (first | assumption | apply Tryd.mxCons | apply Tryd.mxApp)); done))) (fun _ _ _ _ => ?_)); conv => whnf)
    rename_i aw cw hcw hdw
    conv => whnf
    refine Lp.by3 Tryd.tysOk [15] (fun (k : Nat) (X : Aob) (Q : Option Addr × Nat × Nat × Option Addr × Nat) => [.int .i64 k]) (fun k X Q => ptc o 63 (Tryd.asmC Q.1 X.bs.length Q.2.1 Q.2.2.1 Q.2.2.2.1 X.uses.length Q.2.2.2.2 (k : Int)) :: own u8E 5 Q.1 Q.2.1 X.bs :: mapH Q.2.2.1 .string (labV X.labs) :: own useE 92 Q.2.2.2.1 Q.2.2.2.2 X.uses :: ptc b 37 [.int .i64 0] :: own strE 9 aw cw ws :: L) (fun k X Q => (k ≤ qs.length ∧ X.line = (k : Int) ∧ X.bs.length ≤ 1024 ∧ X.uses.length ≤ k) ∧ txF X (qs.drop k) = R0 ∧ usOk X.bs.length X.uses ∧ (X.bs.length ≤ Q.2.1 ∧ Ad Q.1 X.bs.length ∧ X.uses.length ≤ Q.2.2.2.2 ∧ Ad Q.2.2.2.1 X.uses.length)) (fun k X Q => qs.length - k) (0) ((⟨[], [], [], 0⟩ : Aob)) (((a, c, mb, a', c') : Option Addr × Nat × Nat × Option Addr × Nat)) (by kernel_rfl) (by (refine FEnt.ent ?_; (repeat (first | exact FEnt.rfl | (refine FEnt.at 1 rfl ?_; (try simp only [List.eraseIdx_cons_zero, List.eraseIdx_cons_succ, List.eraseIdx_zero, List.tail_cons])) | (refine FEnt.at 2 rfl ?_; (try simp only [List.eraseIdx_cons_zero, List.eraseIdx_cons_succ, List.eraseIdx_zero, List.tail_cons])))); done)) (⟨⟨by omega, rfl, by exact Nat.zero_le _, by exact Nat.le_refl _⟩, hR, fun u hu => absurd hu (by simp), ⟨v1, v2, v3, v4⟩⟩) ?_
    rintro k ⟨bs, labs, us, line⟩ ⟨a1, c1, mb1, a2, c2⟩ ⟨⟨g1, g2, g3, g4⟩, g5, g6, ⟨u1, u2, u3, u4⟩⟩
    conv => whnf
    repeat (intro _; conv => whnf)
    dsimp only at g2 g3 g4 g6 u1 u2 u3 u4
    subst g2
    clear hR v1 v2 v3 v4 hsp
    by_cases hk : k < qs.length
    · rw [nl_drop hk, txF] at g5
      have hq3 := q3 k
      have hak := hwa k hk
      have el : (ws.getD k strE.d).data.toList = qs.getD k [] := by rw [hak]
      have esz : (ws.getD k strE.d).size ≤ 90000 := by rw [hak, bsL_size]; omega
      have hok := ok_ln (qs.getD k [])
      have hnz := nam_sz (qs.getD k [])
      clear hwa q3
      by_cases hE : rdE ⟨bs, labs, us, (k : Int) + 1⟩ (lnF (qs.getD k [])) = 0
      · rw [if_neg (fun h => h hE)] at g5
        obtain ⟨e1, e2, e3⟩ := rdE_zero hE
        have hrd := fun L h => Tryd.asmIsOpen (Tryd.asmReadGood o ⟨bs, labs, us, (k : Int) + 1⟩ (ws.getD k strE.d) L esz h g3 (by show us.length ≤ _; omega) (by rw [el]; exact e1) (by rw [el]; exact e2) (by rw [el]; exact e3))
        rw [el] at hrd
        have f1 := rdX_line ⟨bs, labs, us, (k : Int) + 1⟩ (lnF (qs.getD k []))
        have f2 := rdX_uses ⟨bs, labs, us, (k : Int) + 1⟩ (lnF (qs.getD k []))
        have f3 := rdX_bs (X := ⟨bs, labs, us, (k : Int) + 1⟩) g3 hE
        have f4 := rdX_us (X := ⟨bs, labs, us, (k : Int) + 1⟩) hok (lnZb_sz hok) hnz g6
        generalize rdX ⟨bs, labs, us, (k : Int) + 1⟩ (lnF (qs.getD k [])) = Y at *
        obtain ⟨ybs, ylabs, yus, yline⟩ := Y
        dsimp only at f1 f2 f3 f4
        subst f1
        clear e1 e2 e3 hE hok hnz el hak g6
        conv => whnf
        repeat' (first
          | ((with_reducible refine Br.dt ?_ ?_); (focus (first | assumption | omega)); conv => whnf)
          | ((with_reducible refine Ar.i64 ?_ ?_); (focus omega); conv => whnf)
          | ((with_reducible refine Nd.mk ?_ ?_); (focus (first | omega | rfl | assumption | (simp; done))); conv => whnf)
          | ((with_reducible refine Ix.ad ?_ ?_ ?_); (focus (assumption)); (focus (omega)); conv => whnf)
          | (first | ((with_reducible apply Ld.rdk0); (focus ((repeat ((refine Rd.own 5 rfl ?_); (assumption))); done)); (focus rfl); (focus (omega)); (focus rfl); conv => whnf) | (refine Ld.at 0 rfl rfl ?_; conv => whnf))
          | (refine St.at 0 rfl (by first | exact Nat.le_of_ble_eq_true rfl | (simp; done)) rfl ?_; conv => whnf)
          | (apply (Cl.pre [Tryd.asmH o ⟨bs, labs, us, (k : Int) + 1⟩]); (focus ((repeat (first | exact FEnt.rfl | (apply Tryd.asmShut) | rfl | assumption)); done)); refine Cl.exs (hrd _ (by ((repeat (first | assumption | apply Tryd.mxCons | apply Tryd.mxApp)); done))) ?_; rintro ⟨a5, c5, mb5, a6, c6⟩ ⟨w1, w2, w3, w4⟩; conv => whnf))
        all_goals first | (exfalso; omega) | exact ⟨k + 1, ⟨ybs, ylabs, yus, (k : Int) + 1⟩, (a5, c5, mb5, a6, c6), by kernel_rfl, by (try dsimp only); (exact Ent.rfl), ⟨⟨by omega, by rfl, f3, by (try dsimp only); omega⟩, g5, f4, ⟨w1, w2, w3, w4⟩⟩, by omega⟩
      · rw [if_pos hE] at g5
        have hrd := fun L h => Tryd.asmReadWrong o ⟨bs, labs, us, (k : Int) + 1⟩ (ws.getD k strE.d) L esz h g3 (by show us.length ≤ _; omega) (by rw [el]; exact hE)
        rw [el] at hrd
        subst g5
        generalize rdE ⟨bs, labs, us, (k : Int) + 1⟩ (lnF (qs.getD k [])) = e at *
        clear hE hok hnz el hak g6
        conv => whnf
        repeat' (first
          | ((with_reducible refine Br.dt ?_ ?_); (focus (first | assumption | omega)); conv => whnf)
          | ((with_reducible refine Ar.i64 ?_ ?_); (focus omega); conv => whnf)
          | ((with_reducible refine Nd.mk ?_ ?_); (focus (first | omega | rfl | assumption | (simp; done))); conv => whnf)
          | ((with_reducible refine Ix.ad ?_ ?_ ?_); (focus (assumption)); (focus (omega)); conv => whnf)
          | (first | ((with_reducible apply Ld.rdk0); (focus ((repeat ((refine Rd.own 5 rfl ?_); (assumption))); done)); (focus rfl); (focus (omega)); (focus rfl); conv => whnf) | (refine Ld.at 0 rfl rfl ?_; conv => whnf))
          | (refine St.at 0 rfl (by first | exact Nat.le_of_ble_eq_true rfl | (simp; done)) rfl ?_; conv => whnf)
          | ((with_reducible refine (?_ : Cl _ 45 _ _ _ _)); (apply (Cl.pre [Tryd.asmH o ⟨bs, labs, us, (k : Int) + 1⟩]); (focus (repeat (first | exact FEnt.rfl | (apply Tryd.asmShut) | rfl | assumption)); done); refine Cl.pan (hrd _ (by ((repeat (first | assumption | apply Tryd.mxCons | apply Tryd.mxApp)); done))) (fun ch L' h => ?_)); conv => whnf))
        all_goals try (exfalso; omega)
        all_goals (
          refine ⟨e, 0, Tryd.asmL o ((k : Int) + 1) :: L, h.ch, fun w s => (by (refine FEnt.ent ?_; (repeat (first | exact FEnt.rfl | (refine FEnt.at 0 rfl ?_; (try simp only [List.eraseIdx_cons_zero, List.eraseIdx_cons_succ, List.eraseIdx_zero, List.tail_cons])) | (refine FEnt.at 1 rfl ?_; (try simp only [List.eraseIdx_cons_zero, List.eraseIdx_cons_succ, List.eraseIdx_zero, List.tail_cons])) | refine FEnt.drop ?_)); done) : Ent _ (ptc b 37 [.int .i64 0] :: Tryd.asmL o ((k : Int) + 1) :: L)) w (h.l w s), ?_⟩
          conv => whnf
          repeat' (refine Ld.at 0 rfl rfl ?_; conv => whnf)
          all_goals exact Is.ent (by (refine FEnt.ent ?_; (repeat (first | exact FEnt.rfl | (refine FEnt.at 1 rfl ?_; (try simp only [List.eraseIdx_cons_zero, List.eraseIdx_cons_succ, List.eraseIdx_zero, List.tail_cons])) | refine FEnt.drop ?_)); done)) Is.rfl)
    · have ek : k = qs.length := by omega
      rw [List.drop_eq_nil_of_le (by omega), txF] at g5
      dsimp only at g5
      clear hwa q3
      conv => whnf
      repeat' (first
        | ((with_reducible refine Br.df ?_ ?_); (focus (first | assumption | omega)); conv => whnf)
        | (refine Ld.at 0 rfl rfl ?_; conv => whnf))
      conv => whnf
      refine Lp.by2 Tryd.tysOk [35] (fun (j : Nat) (zs : List UInt8) => [.int .i64 j]) (fun j zs => ptc o 63 (Tryd.asmC a1 bs.length c1 mb1 a2 us.length c2 (k : Int)) :: own u8E 5 a1 c1 zs :: mapH mb1 .string (labV labs) :: own useE 92 a2 c2 us :: ptc b 37 [.int .i64 0] :: L) (fun j zs => (j ≤ us.length ∧ zs.length = bs.length) ∧ ptF labs zs (us.drop j) = R0) (fun j zs => us.length - j) (0) (bs) (by kernel_rfl) (by (refine FEnt.ent ?_; (repeat (first | exact FEnt.rfl | (refine FEnt.at 0 rfl ?_; (try simp only [List.eraseIdx_cons_zero, List.eraseIdx_cons_succ, List.eraseIdx_zero, List.tail_cons])) | refine FEnt.drop ?_)); done)) (⟨⟨by omega, rfl⟩, g5⟩) ?_
      rintro j zs ⟨⟨x1, x2⟩, x3⟩
      conv => whnf
      repeat (intro _; conv => whnf)
      clear g5
      have u2' : Ad a1 zs.length := by rw [x2]; exact u2
      by_cases hj : j < us.length
      · have hu := g6 _ (getD_mem (d := useE.d) hj)
        have hdr : us.drop j = us.getD j useE.d :: us.drop (j + 1) := by
          rw [List.drop_eq_getElem_cons hj]
          simp [List.getD, hj]
        rw [hdr, ptF] at x3
        clear hdr g6
        cases hlk : lkF labs (us.getD j useE.d).1 with
        | none =>
          rw [hlk] at x3
          have hno := lk_none hlk
          have hno2 : ∀ p ∈ labV labs, p.1 ≠ .string (us.getD j useE.d).1 := fun p hp => by
            obtain ⟨q, hq, rfl⟩ := List.mem_map.1 hp
            intro h
            exact hno q hq (Value.string.inj h)
          subst x3
          clear hno
          conv => whnf
          repeat' (first
            | (first | ((with_reducible refine Br.nf ?_); conv => whnf) | ((with_reducible refine Br.yes ?_ ?_); (focus (first | (simp; done) | (simp; omega))); conv => whnf))
            | ((with_reducible refine Nd.mk ?_ ?_); (focus (first | omega | rfl | assumption | (simp; done))); conv => whnf)
            | ((with_reducible refine Nc.go' (fun _ => ?_)); conv => whnf)
            | ((with_reducible refine Ix.ad ?_ ?_ ?_); (focus (assumption)); (focus ((simp only [List.length_append, List.length_cons, List.length_nil]); omega)); conv => whnf)
            | (first | (refine Ld.at 0 rfl rfl ?_; conv => whnf) | (refine Ld.at 1 rfl rfl ?_; conv => whnf))
            | ((with_reducible apply LdN.rdk); (focus ((repeat ((refine Rd.own 3 rfl ?_); (assumption))); done)); (focus rfl); (focus rfl); (focus (omega)); conv => whnf)
            | (first | (refine St.at 0 rfl (by first | exact Nat.le_of_ble_eq_true rfl | (simp; done)) rfl ?_; conv => whnf) | (refine St.at 1 rfl (by first | exact Nat.le_of_ble_eq_true rfl | (simp; done)) rfl ?_; conv => whnf))
            | ((with_reducible refine Dr.by (id := 11) Tryd.tysOk rfl [(0, 0), (1, 0), (2, 0), (4, 0), (3, 1), (5, 1), (6, 1), (7, 0), (8, 0), (9, 0), (10, 0), (11, 0)] ?_ ?_); (focus kernel_rfl); conv => whnf)
            | ((with_reducible refine (?_ : SR _ (Instr.lookup _ _ _ _) _ _)); (refine SR.lkNo Tryd.tysOk 3 rfl rfl rfl rfl rfl rfl (by first | exact rfl | exact trivial) (hno2) ?_; conv => whnf))
            | ((with_reducible refine (?_ : Cl _ 46 _ _ _ _)); (refine Cl.pan (Tryd.asmGive _ _) (fun ch L' h => ?_)); conv => whnf))
          all_goals try (exfalso; omega)
          all_goals (
            refine ⟨14, 0, Tryd.asmL o (us.getD j useE.d).2.2 :: L, h.ch, fun w s => (by (refine FEnt.ent ?_; (repeat (first | exact FEnt.rfl | (refine FEnt.at 1 rfl ?_; (try simp only [List.eraseIdx_cons_zero, List.eraseIdx_cons_succ, List.eraseIdx_zero, List.tail_cons])))); done) : Ent (Tryd.asmL o (us.getD j useE.d).2.2 :: ptc b 37 [.int .i64 0] :: L) (ptc b 37 [.int .i64 0] :: Tryd.asmL o (us.getD j useE.d).2.2 :: L)) w (Tryd.asmForget (X := ⟨zs, labs, us, (us.getD j useE.d).2.2⟩) w ((by (refine FEnt.ent ?_; (repeat (first | exact FEnt.rfl | (refine FEnt.at 1 rfl ?_; (try simp only [List.eraseIdx_cons_zero, List.eraseIdx_cons_succ, List.eraseIdx_zero, List.tail_cons])) | (apply Tryd.asmShut) | refine FEnt.drop ?_ | rfl | assumption | omega)); done) : Ent _ (Tryd.asmH o ⟨zs, labs, us, (us.getD j useE.d).2.2⟩ :: ptc b 37 [.int .i64 0] :: L)) w (h.l w s))), ?_⟩
            conv => whnf
            repeat' (refine Ld.at 0 rfl rfl ?_; conv => whnf)
            all_goals exact Is.ent (by (refine FEnt.ent ?_; (repeat (first | exact FEnt.rfl | (refine FEnt.at 1 rfl ?_; (try simp only [List.eraseIdx_cons_zero, List.eraseIdx_cons_succ, List.eraseIdx_zero, List.tail_cons])) | refine FEnt.drop ?_)); done)) Is.rfl)
        | some v =>
          rw [hlk] at x3
          obtain ⟨i, hi⟩ := lk_some hlk
          have hi2 : (labV labs)[i]? = some (.string (us.getD j useE.d).1, .int .i64 v) := by rw [labV, List.getElem?_map, hi]; rfl
          have hbp := fun L => Tryd.bitsPut v L
          have hz2 : (bsL (p2 v)).size = 2 := rfl
          have hll : (lay zs (us.getD j useE.d).2.1.toNat (p2 v)).length = zs.length := lay_len (by rw [p2_len]; omega)
          dsimp only at x3
          conv => whnf
          repeat' (first
            | (first | ((with_reducible refine Br.nt ?_); conv => whnf) | ((with_reducible refine Br.yes ?_ ?_); (focus (first | (simp; done) | (simp; omega))); conv => whnf))
            | ((with_reducible refine Ar.i64 ?_ ?_); (focus omega); conv => whnf)
            | ((with_reducible refine Nd.mk ?_ ?_); (focus (first | omega | rfl | assumption | (simp; done))); conv => whnf)
            | ((with_reducible refine Nc.go' (fun _ => ?_)); conv => whnf)
            | ((with_reducible refine Ix.ad ?_ ?_ ?_); (focus (assumption)); (focus ((simp only [List.length_append, List.length_cons, List.length_nil]); omega)); conv => whnf)
            | ((with_reducible refine Sub.suf rfl ?_ ?_ ?_); (focus (omega)); (focus (omega)); conv => whnf)
            | (first | (refine Ld.at 0 rfl rfl ?_; conv => whnf) | (refine Ld.at 1 rfl rfl ?_; conv => whnf))
            | ((with_reducible apply LdN.rdk); (focus ((repeat ((refine Rd.own 3 rfl ?_); (assumption))); done)); (focus rfl); (focus rfl); (focus (omega)); conv => whnf)
            | (refine St.at 0 rfl (by first | exact Nat.le_of_ble_eq_true rfl | (simp; done)) rfl ?_; conv => whnf)
            | ((with_reducible refine Dr.by (id := 11) Tryd.tysOk rfl [(0, 0), (1, 0), (2, 0), (4, 0), (3, 1), (5, 1), (6, 1), (7, 0), (8, 0), (9, 0), (10, 0), (11, 0)] ?_ ?_); (focus kernel_rfl); conv => whnf)
            | ((with_reducible refine Dr.by (id := 15) Tryd.tysOk rfl [(0, 0), (1, 0), (2, 0), (4, 0), (7, 0), (3, 1), (5, 1), (6, 0), (8, 1), (9, 3)] ?_ ?_); (focus kernel_rfl); conv => whnf)
            | ((with_reducible refine (?_ : SR _ (Instr.lookup _ _ _ _) _ _)); (refine SR.lkYes Tryd.tysOk 3 rfl rfl rfl rfl rfl (by first | exact rfl | exact trivial) _ (hi2) ?_; conv => whnf))
            | ((with_reducible refine CD.is (fun M => hbp _) ?_); conv => whnf)
            | ((refine Sm.cpS Tryd.tysOk 2 rfl rfl rfl rfl rfl (by first | rfl | (simp only [List.length_drop]; omega)) (by rw [hz2]; omega) (by omega) ?_); conv => whnf))
          all_goals try (exfalso; omega)
          all_goals exact ⟨j + 1, lay zs (us.getD j useE.d).2.1.toNat (p2 v), by kernel_rfl, by (refine FEnt.ent ?_; (repeat (first | exact FEnt.rfl | (refine FEnt.at 1 rfl ?_; (try simp only [List.eraseIdx_cons_zero, List.eraseIdx_cons_succ, List.eraseIdx_zero, List.tail_cons])) | refine FEnt.drop ?_)); done), ⟨⟨by omega, by rw [hll]; exact x2⟩, x3⟩, by omega⟩
      · rw [List.drop_eq_nil_of_le (by omega), ptF] at x3
        subst x3
        clear g6
        conv => whnf
        repeat' (first
          | ((with_reducible refine Br.no ?_ ?_); (focus (first | (simp; done) | (simp; omega))); conv => whnf)
          | ((with_reducible refine Nd.mk ?_ ?_); (focus (first | omega | rfl | assumption | (simp; done))); conv => whnf)
          | (refine Ld.at 4 rfl rfl ?_; conv => whnf)
          | (refine St.at 4 rfl (by first | exact Nat.le_of_ble_eq_true rfl | (simp; done)) rfl ?_; conv => whnf))
        all_goals try (exfalso; omega)
        all_goals exact Is.ent (fun w s => Tryd.asmKeep (X := ⟨zs, labs, us, (k : Int)⟩) w ((by (refine FEnt.ent ?_; (repeat (first | exact FEnt.rfl | (refine FEnt.at 0 rfl ?_; (try simp only [List.eraseIdx_cons_zero, List.eraseIdx_cons_succ, List.eraseIdx_zero, List.tail_cons])) | (apply Tryd.asmShut) | refine FEnt.drop ?_ | rfl | assumption | omega)); done) : Ent _ (Tryd.asmH o ⟨zs, labs, us, (k : Int)⟩ :: L)) w s)) Is.rfl
end Go.Proofs
