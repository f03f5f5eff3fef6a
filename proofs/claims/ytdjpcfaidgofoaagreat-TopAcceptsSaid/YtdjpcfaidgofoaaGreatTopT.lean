/- image.tables: contracts (printed by program). -/
import Derived.Test.YtdjpcfaidgofoaaGreatTopB
set_option linter.all false
namespace Go.Proofs
open Go.Eng
open Classical
set_option linter.unusedVariables false
set_option maxRecDepth 100000
set_option maxHeartbeats 4000000
/-! the tables -/
structure TbS where
  n : Int
  t : Rst
  b : Nat
  wa : Option Addr
  wc : Nat
  W : List Slt
  sa : Option Addr
  sc : Nat
  S : List Slt
  ca : Option Addr
  cc : Nat
  X : List Cli
structure TbI (s : ByteArray) (F : Tb) (lab : Nat) (a : TbS) : Prop where
  hn : 0 ≤ a.n ∧ a.n ≤ 255
  ht : a.t.2 ≤ s.size
  hw : a.W.length ≤ 255 ∧ a.W.length ≤ a.wc ∧ Ad a.wa a.W.length
  hs : a.S.length ≤ 255 ∧ a.S.length ≤ a.sc ∧ Ad a.sa a.S.length
  hx : a.X.length ≤ 255 ∧ a.X.length ≤ a.cc ∧ Ad a.ca a.X.length
  hf : (lab = 0 ∧ fin0 s a.n a.t a.W = F ∧ (a.W.length : Int) + a.n ≤ 255 ∧ a.S = [] ∧ a.X = []) ∨ (lab = 1 ∧ fin1 s a.n a.t a.W a.S = F ∧ (a.S.length : Int) + a.n ≤ 255 ∧ a.X = []) ∨ (lab = 2 ∧ fin2 s a.n a.t a.W a.S a.X = F ∧ (a.X.length : Int) + a.n ≤ 255)
abbrev Tryz.TbP (b : Nat) (s : ByteArray) (t : Rst) (L : List HP) := Exs (fun y : Cfg => cfV y) (fun y => own slE 43 y.wa y.wc y.ws :: own slE 44 y.sa y.sc y.ss :: own clE 46 y.ca y.cc y.xs :: ptc b 205 (rdT s (tblF s t).2.2.2) :: L)
  (fun y => (y.F = wV s t ∧ y.ws = (tblF s t).1 ∧ y.ss = (tblF s t).2.1 ∧ y.xs = (tblF s t).2.2.1) ∧ (y.ws.length ≤ y.wc ∧ Ad y.wa y.ws.length) ∧ (y.ss.length ≤ y.sc ∧ Ad y.sa y.ss.length) ∧ (y.xs.length ≤ y.cc ∧ Ad y.ca y.xs.length))
theorem rE_yes {t : Rst} (h : t.1 = true) : rE t = 0 := if_pos h
theorem rE_no {t : Rst} (h : ¬ t.1 = true) : ¬ rE t = 0 := by unfold rE; rw [if_neg h]; decide
theorem bV_no {s : ByteArray} {t : Rst} (h : ¬ t.1 = true) : bV s t = 0 := if_neg fun hh => h hh.1
theorem nxt_err {s : ByteArray} {n : Nat} {t : Rst} (h : ¬ t.1 = true) : nxt s n t = t := by
  unfold nxt
  rw [if_neg (fun hh => h hh.1)]
  obtain ⟨ok, k⟩ := t
  cases ok with
  | true => exact absurd rfl h
  | false => rfl
theorem Tryz.rByteE (b : Nat) (s : ByteArray) (t : Rst) (L : List HP) (ht : t.2 ≤ s.size) (hs : s.size ≤ 1000000) (h : ¬ t.1 = true) :
    Con Tryz.prog 94 [.pointer (some ⟨b, 0, none⟩)] (ptc b 205 (rdT s t) :: L) (Is (i64W 0) (ptc b 205 (rdT s t) :: L)) := by
  have := Tryz.rByte b s t L ht hs
  rw [bV_no h, nxt_err h] at this
  exact this
structure Hid4 (G : Prop) : Prop where
  go : G
/-- a statement out of four -/
def mk4 {X : Prop} (G1 G2 G3 G4 : Prop) (h : Hid4 G1 → Hid4 G2 → Hid4 G3 → Hid4 G4 → X) : {G : Prop × Prop × Prop × Prop // G.1 → G.2.1 → G.2.2.1 → G.2.2.2 → X} := ⟨(G1, G2, G3, G4), fun a b c d => h ⟨a⟩ ⟨b⟩ ⟨c⟩ ⟨d⟩⟩
noncomputable def Tryz.tbD (b : Nat) (s : ByteArray) (t0 : Rst) (L : List HP) (ht0 : t0.2 ≤ s.size) (hs : s.size ≤ 1000000) :
    {G : Prop × Prop × Prop × Prop // G.1 → G.2.1 → G.2.2.1 → G.2.2.2 → Con Tryz.prog 52 [.pointer (some ⟨b, 0, none⟩)] (ptc b 205 (rdT s t0) :: L) (Tryz.TbP b s t0 L)} := by
  apply mk4
  intro k1 k2 k3 k4
  have hf : fin0 s (bV s (nxt s 2 t0)) (nxt s 1 (nxt s 2 t0)) [] = tblF s t0 := rfl
  unfold Tryz.TbP
  generalize tblF s t0 = FIN at *
  obtain ⟨FW, FS, FX, FT⟩ := FIN
  dsimp only
  have hT := fun L => Tryz.rTwo b s t0 L ht0 hs
  have hB := fun L => Tryz.rByte b s (nxt s 2 t0) L (nxt_le ht0) hs
  have hbd0 := bV_bd s (nxt s 2 t0)
  have htl0 : (nxt s 1 (nxt s 2 t0)).2 ≤ s.size := nxt_le (nxt_le ht0)
  generalize wV s t0 = F0 at *
  generalize bV s (nxt s 2 t0) = n0 at *
  generalize nxt s 1 (nxt s 2 t0) = t1 at *
  generalize nxt s 2 t0 = tA at *
  refine con_of Tryz.tysOk Tryz.func52 rfl rfl ?_
  conv => whnf
  repeat' ((with_reducible refine Nc.go' (fun _ => ?_)); conv => whnf)
  rename_i b2
  refine Sc.many Tryz.tysOk [4, 3] (fun (⟨n, t, b', wa, wc, W, sa, sc, S, ca, cc, X⟩ : TbS) => [.int .i64 n, .pointer (some ⟨b', 0, none⟩)]) (fun (⟨n, t, b', wa, wc, W, sa, sc, S, ca, cc, X⟩ : TbS) => ptc b' 28 [n64 F0, .slice wa W.length wc, .slice sa S.length sc, .slice ca X.length cc] :: own slE 43 wa wc W :: own slE 44 sa sc S :: own clE 46 ca cc X :: ptc b 205 (rdT s t) :: ptc b2 28 [n64 0, .slice none 0 0, .slice none 0 0, .slice none 0 0] :: L) (TbI s (FW, FS, FX, FT)) (fun lab a => (2 - lab) * 1000 + a.n.toNat) ?_ ?_
  · revert FW FS FX FT F0 n0 t1 tA b2
    repeat (rename_i zz; revert zz)
    exact k1.go
  · clear hf hT hB hbd0 htl0
    clear n0 t1 tA
    rintro lab ⟨n0, t1, b3, wa, wc, W, sa, sc, S, ca, cc, X⟩ ⟨hbd0, htl0, ⟨w1, w2, w3⟩, ⟨s1, s2, s3⟩, ⟨x1, x2, x3⟩, hI⟩
    dsimp only at hbd0 htl0 w1 w2 w3 s1 s2 s3 x1 x2 x3 hI
    rcases hI with ⟨rfl, hf, hl, rfl, rfl⟩ | ⟨rfl, hf, hl, rfl⟩ | ⟨rfl, hf, hl⟩
    · refine ⟨_, rfl, ?_⟩
      conv => whnf
      repeat (intro _; conv => whnf)
      revert FW FS FX FT F0 b2 n0 t1 b3 wa wc W sa sc ca cc
      repeat (rename_i zz; revert zz)
      exact k2.go
    · refine ⟨_, rfl, ?_⟩
      conv => whnf
      repeat (intro _; conv => whnf)
      revert FW FS FX FT F0 b2 n0 t1 b3 wa wc W sa sc S ca cc
      repeat (rename_i zz; revert zz)
      exact k3.go
    · refine ⟨_, rfl, ?_⟩
      conv => whnf
      repeat (intro _; conv => whnf)
      revert FW FS FX FT F0 b2 n0 t1 b3 wa wc W sa sc S ca cc X
      repeat (rename_i zz; revert zz)
      exact k4.go
set_option maxHeartbeats 40000000 in
theorem Tryz.tbL1 (b : Nat) (s : ByteArray) (t0 : Rst) (L : List HP) (ht0 : t0.2 ≤ s.size) (hs : s.size ≤ 1000000) : (Tryz.tbD b s t0 L ht0 hs).1.1 := by
  skip
  conv => whnf
  set_option tactic.hygienic false in intros
  by_cases hn : 0 < n0
  · by_cases ht : t1.1 = true
    · skip
      rw [fin0_go s _ hn ht] at hf
      have hE := rE_yes ht
      clear ht
      have q0 := fun L => Tryz.rByte b s t1 L (by repeat (first | assumption | apply nxt_le)) hs
      have q1 := fun L => Tryz.rTwo b s (nxt s 1 t1) L (by repeat (first | assumption | apply nxt_le)) hs
      have q2 := fun L => Tryz.rTwo b s (nxt s 2 (nxt s 1 t1)) L (by repeat (first | assumption | apply nxt_le)) hs
      have hle : (nxt s 2 (nxt s 2 (nxt s 1 t1))).2 ≤ s.size := by repeat (first | assumption | apply nxt_le)
      rw [show rowW s t1 = (bV s t1, wV s (nxt s 1 t1), wV s (nxt s 2 (nxt s 1 t1))) from rfl, show rowWn s t1 = (nxt s 2 (nxt s 2 (nxt s 1 t1))) from rfl] at hf
      generalize (nxt s 2 (nxt s 2 (nxt s 1 t1))) = u3 at *
      generalize wV s (nxt s 2 (nxt s 1 t1)) = v2 at *
      generalize (nxt s 2 (nxt s 1 t1)) = u2 at *
      generalize wV s (nxt s 1 t1) = v1 at *
      generalize (nxt s 1 t1) = u1 at *
      generalize bV s t1 = v0 at *
      conv => whnf
      repeat' (first
        | (first | ((with_reducible refine Br.tt ?_); conv => whnf) | ((with_reducible refine Br.dt ?_ ?_); (focus (first | assumption | omega)); conv => whnf))
        | ((with_reducible refine Ar.i64 ?_ ?_); (focus omega); conv => whnf)
        | ((with_reducible refine Nd.mk ?_ ?_); (focus (first | omega | rfl | assumption | (simp; done))); conv => whnf)
        | ((with_reducible refine Nc.go' (fun _ => ?_)); conv => whnf)
        | ((with_reducible refine Fk.mk ?_ ?_) <;> (conv => whnf))
        | (with_reducible exact True.intro)
        | (refine Ld.at 0 rfl rfl ?_; conv => whnf)
        | (first | (refine St.at 0 rfl (by first | exact Nat.le_of_ble_eq_true rfl | (simp; done)) rfl ?_; conv => whnf) | (refine St.at 2 rfl (by first | exact Nat.le_of_ble_eq_true rfl | (simp; done)) rfl ?_; conv => whnf))
        | ((with_reducible refine Dr.tree (id := 4) Tryz.tysOk rfl (.one 0 0 (.one 2 0 (.one 4 0 (.one 6 0 (.fork 1 1 (.one 3 3 (.one 5 3 (.one 7 3 (.one 8 0 (.one 9 2 (.one 10 3 (.one 11 0 (.one 12 3 .nil)))))))) (.fork 3 3 (.fork 1 1 (.one 5 3 (.one 7 3 (.one 8 0 (.one 9 2 (.one 10 3 (.one 11 0 (.one 12 3 .nil))))))) (.fork 5 3 (.fork 1 1 (.one 7 3 (.one 8 0 (.one 9 2 (.one 10 3 (.one 11 0 (.one 12 3 .nil)))))) (.fork 7 3 (.one 8 0 (.one 1 1 (.one 9 2 (.one 10 3 (.one 11 0 (.one 12 3 .nil)))))) .nil)) .nil)) .nil)))))) ?_ _ ?_ (fun _ _ h => h)); (focus kernel_rfl); conv => whnf)
        | (first | ((refine Cl.isAt 1 rfl (hT _) ?_); conv => whnf) | ((refine Cl.isAt 2 rfl (hB _) ?_); conv => whnf) | ((refine Cl.isAt 2 rfl (q0 _) ?_); conv => whnf) | ((refine Cl.isAt 2 rfl (q1 _) ?_); conv => whnf) | ((refine Cl.isAt 2 rfl (q2 _) ?_); conv => whnf) | ((refine Cl.isAt 2 rfl (Tryz.rErr b s _ _) ?_); conv => whnf))
        | ((with_reducible refine (?_ : Sm _ (Builtin.append_ _ _ _) _ _)); ((with_reducible_and_instances apply (Sm.appNil (E := slE) (et := 43) Tryz.tysOk)); (rotate_left; (focus (exact Rd.ptc 0 rfl [(_, _, _)] rfl)); rotate_right; (focus rfl)); (focus rfl); (focus rfl); (focus rfl); (focus rfl); (focus rfl); (focus ((simp only [List.length_append, List.length_cons, List.length_nil]); omega)); (intro _ _ _ _); conv => whnf)))
      all_goals try (exfalso; omega)
      all_goals (rename_i b3 x5 a5 c5 hc5 had5; exact Jmp.mk ⟨(⟨n0 - 1, u3, b3, a5, c5, (([] : List Slt) ++ [(v0, v1, v2)]), none, 0, ([] : List Slt), none, 0, ([] : List Cli)⟩ : TbS), by kernel_rfl, by (try dsimp only); (refine FEnt.ent ?_; (repeat (first | exact FEnt.rfl | (refine FEnt.at 0 rfl ?_; (try simp only [List.eraseIdx_cons_zero, List.eraseIdx_cons_succ, List.eraseIdx_zero, List.tail_cons])) | (refine FEnt.at 1 rfl ?_; (try simp only [List.eraseIdx_cons_zero, List.eraseIdx_cons_succ, List.eraseIdx_zero, List.tail_cons])) | (refine FEnt.at 2 rfl ?_; (try simp only [List.eraseIdx_cons_zero, List.eraseIdx_cons_succ, List.eraseIdx_zero, List.tail_cons])) | refine FEnt.nil ?_ | refine FEnt.drop ?_)); done), ⟨⟨by dsimp only; omega, by dsimp only; omega⟩, hle, ⟨by dsimp only; rw [List.length_append]; simp only [List.length_cons, List.length_nil]; omega, hc5, had5⟩, (And.intro (Nat.zero_le 255) (And.intro (Nat.le_refl 0) (fun h => absurd rfl h))), (And.intro (Nat.zero_le 255) (And.intro (Nat.le_refl 0) (fun h => absurd rfl h))), (.inl ⟨rfl, hf, by dsimp only; rw [List.length_append]; simp only [List.length_cons, List.length_nil]; omega, rfl, rfl⟩)⟩⟩)
    · skip
      have hE := rE_no ht
      have hBe := fun L => Tryz.rByteE b s t1 L htl0 hs ht
      have hno : ¬ (0 < n0 ∧ t1.1 = true) := fun h => ht h.2
      have hz : ∀ u : Rst, ¬ ((0 : Int) < 0 ∧ u.1 = true) := fun u h => absurd h.1 (by decide)
      rw [fin0_no s _ hno, bV_no ht, nxt_err ht, fin1_no s _ _ (hz _), bV_no ht, nxt_err ht, fin2_no s _ _ _ (hz _)] at hf
      clear hno hz ht
      obtain ⟨rfl, rfl, rfl, rfl⟩ : _ ∧ _ ∧ _ ∧ _ := ⟨congrArg (·.1) hf, congrArg (·.2.1) hf, congrArg (·.2.2.1) hf, congrArg (·.2.2.2) hf⟩
      clear hf
      conv => whnf
      repeat' (first
        | (first | ((with_reducible refine Br.tt ?_); conv => whnf) | ((with_reducible refine Br.ff ?_); conv => whnf) | ((with_reducible refine Br.dt ?_ ?_); (focus (first | assumption | omega)); conv => whnf) | ((with_reducible refine Br.df ?_ ?_); (focus (first | assumption | omega)); conv => whnf))
        | ((with_reducible refine Nd.mk ?_ ?_); (focus (first | omega | rfl | assumption | (simp; done))); conv => whnf)
        | ((with_reducible refine Nc.go' (fun _ => ?_)); conv => whnf)
        | (first | (refine LdN.at 0 rfl (by first | exact Nat.le_of_ble_eq_true rfl | (simp; done)) ?_; conv => whnf) | (refine LdN.at 1 rfl (by first | exact Nat.le_of_ble_eq_true rfl | (simp; done)) ?_; conv => whnf))
        | (first | (refine St.at 0 rfl (by first | exact Nat.le_of_ble_eq_true rfl | (simp; done)) rfl ?_; conv => whnf) | (refine St.at 1 rfl (by first | exact Nat.le_of_ble_eq_true rfl | (simp; done)) rfl ?_; conv => whnf))
        | (first | ((refine Cl.isAt 1 rfl (hT _) ?_); conv => whnf) | ((refine Cl.isAt 2 rfl (hB _) ?_); conv => whnf) | ((refine Cl.isAt 2 rfl (hBe _) ?_); conv => whnf) | ((refine Cl.isAt 2 rfl (Tryz.rErr b s _ _) ?_); conv => whnf)))
      all_goals try (exfalso; omega)
      all_goals exact Exs.of (⟨F0, none, 0, ([] : List Slt), none, 0, ([] : List Slt), none, 0, ([] : List Cli)⟩ : Cfg) (by (try dsimp only); (refine FEnt.ent ?_; (repeat (first | exact FEnt.rfl | (refine FEnt.at 2 rfl ?_; (try simp only [List.eraseIdx_cons_zero, List.eraseIdx_cons_succ, List.eraseIdx_zero, List.tail_cons])) | refine FEnt.nil ?_ | refine FEnt.drop ?_)); done)) ⟨⟨rfl, rfl, rfl, rfl⟩, (And.intro (Nat.zero_le 255) (And.intro (Nat.le_refl 0) (fun h => absurd rfl h))).2, (And.intro (Nat.zero_le 255) (And.intro (Nat.le_refl 0) (fun h => absurd rfl h))).2, (And.intro (Nat.zero_le 255) (And.intro (Nat.le_refl 0) (fun h => absurd rfl h))).2⟩ rfl
  · skip
    have hno : ¬ (0 < n0 ∧ t1.1 = true) := fun h => hn h.1
    rw [fin0_no s _ hno] at hf
    clear hno
    have hB1 := fun L => Tryz.rByte b s t1 L htl0 hs
    have hbd1 := bV_bd s t1
    have htl1 := nxt_le (n := 1) htl0
    generalize bV s t1 = n1 at *
    generalize nxt s 1 t1 = t1 at *
    by_cases hn : 0 < n1
    · by_cases ht : t1.1 = true
      · skip
        rw [fin1_go s _ _ hn ht] at hf
        have hE := rE_yes ht
        clear ht
        have q0 := fun L => Tryz.rByte b s t1 L (by repeat (first | assumption | apply nxt_le)) hs
        have q1 := fun L => Tryz.rTwo b s (nxt s 1 t1) L (by repeat (first | assumption | apply nxt_le)) hs
        have q2 := fun L => Tryz.rTwo b s (nxt s 2 (nxt s 1 t1)) L (by repeat (first | assumption | apply nxt_le)) hs
        have hle : (nxt s 2 (nxt s 2 (nxt s 1 t1))).2 ≤ s.size := by repeat (first | assumption | apply nxt_le)
        rw [show rowW s t1 = (bV s t1, wV s (nxt s 1 t1), wV s (nxt s 2 (nxt s 1 t1))) from rfl, show rowWn s t1 = (nxt s 2 (nxt s 2 (nxt s 1 t1))) from rfl] at hf
        generalize (nxt s 2 (nxt s 2 (nxt s 1 t1))) = u3 at *
        generalize wV s (nxt s 2 (nxt s 1 t1)) = v2 at *
        generalize (nxt s 2 (nxt s 1 t1)) = u2 at *
        generalize wV s (nxt s 1 t1) = v1 at *
        generalize (nxt s 1 t1) = u1 at *
        generalize bV s t1 = v0 at *
        conv => whnf
        repeat' (first
          | (first | ((with_reducible refine Br.tt ?_); conv => whnf) | ((with_reducible refine Br.ff ?_); conv => whnf) | ((with_reducible refine Br.dt ?_ ?_); (focus (first | assumption | omega)); conv => whnf) | ((with_reducible refine Br.df ?_ ?_); (focus (first | assumption | omega)); conv => whnf))
          | ((with_reducible refine Ar.i64 ?_ ?_); (focus omega); conv => whnf)
          | ((with_reducible refine Nd.mk ?_ ?_); (focus (first | omega | rfl | assumption | (simp; done))); conv => whnf)
          | ((with_reducible refine Nc.go' (fun _ => ?_)); conv => whnf)
          | ((with_reducible refine Fk.mk ?_ ?_) <;> (conv => whnf))
          | (with_reducible exact True.intro)
          | (refine Ld.at 0 rfl rfl ?_; conv => whnf)
          | (first | (refine St.at 0 rfl (by first | exact Nat.le_of_ble_eq_true rfl | (simp; done)) rfl ?_; conv => whnf) | (refine St.at 2 rfl (by first | exact Nat.le_of_ble_eq_true rfl | (simp; done)) rfl ?_; conv => whnf))
          | ((with_reducible refine Dr.tree (id := 8) Tryz.tysOk rfl (.one 0 0 (.one 2 0 (.one 4 0 (.one 6 0 (.fork 1 1 (.one 3 3 (.one 5 3 (.one 7 3 (.one 8 0 (.one 9 2 (.one 10 3 (.one 11 0 (.one 12 3 .nil)))))))) (.fork 3 3 (.fork 1 1 (.one 5 3 (.one 7 3 (.one 8 0 (.one 9 2 (.one 10 3 (.one 11 0 (.one 12 3 .nil))))))) (.fork 5 3 (.fork 1 1 (.one 7 3 (.one 8 0 (.one 9 2 (.one 10 3 (.one 11 0 (.one 12 3 .nil)))))) (.fork 7 3 (.one 8 0 (.one 1 1 (.one 9 2 (.one 10 3 (.one 11 0 (.one 12 3 .nil)))))) .nil)) .nil)) .nil)))))) ?_ _ ?_ (fun _ _ h => h)); (focus kernel_rfl); conv => whnf)
          | (first | ((refine Cl.isAt 1 rfl (hT _) ?_); conv => whnf) | ((refine Cl.isAt 2 rfl (hB _) ?_); conv => whnf) | ((refine Cl.isAt 2 rfl (hB1 _) ?_); conv => whnf) | ((refine Cl.isAt 2 rfl (q0 _) ?_); conv => whnf) | ((refine Cl.isAt 2 rfl (q1 _) ?_); conv => whnf) | ((refine Cl.isAt 2 rfl (q2 _) ?_); conv => whnf) | ((refine Cl.isAt 2 rfl (Tryz.rErr b s _ _) ?_); conv => whnf))
          | ((with_reducible refine (?_ : Sm _ (Builtin.append_ _ _ _) _ _)); ((with_reducible_and_instances apply (Sm.appNil (E := slE) (et := 44) Tryz.tysOk)); (rotate_left; (focus (exact Rd.ptc 0 rfl [(_, _, _)] rfl)); rotate_right; (focus rfl)); (focus rfl); (focus rfl); (focus rfl); (focus rfl); (focus rfl); (focus ((simp only [List.length_append, List.length_cons, List.length_nil]); omega)); (intro _ _ _ _); conv => whnf)))
        all_goals try (exfalso; omega)
        all_goals (rename_i b3 x5 a5 c5 hc5 had5; exact Jmp.mk ⟨(⟨n1 - 1, u3, b3, none, 0, ([] : List Slt), a5, c5, (([] : List Slt) ++ [(v0, v1, v2)]), none, 0, ([] : List Cli)⟩ : TbS), by kernel_rfl, by (try dsimp only); (refine FEnt.ent ?_; (repeat (first | exact FEnt.rfl | (refine FEnt.at 0 rfl ?_; (try simp only [List.eraseIdx_cons_zero, List.eraseIdx_cons_succ, List.eraseIdx_zero, List.tail_cons])) | (refine FEnt.at 1 rfl ?_; (try simp only [List.eraseIdx_cons_zero, List.eraseIdx_cons_succ, List.eraseIdx_zero, List.tail_cons])) | (refine FEnt.at 2 rfl ?_; (try simp only [List.eraseIdx_cons_zero, List.eraseIdx_cons_succ, List.eraseIdx_zero, List.tail_cons])) | refine FEnt.nil ?_ | refine FEnt.drop ?_)); done), ⟨⟨by dsimp only; omega, by dsimp only; omega⟩, hle, (And.intro (Nat.zero_le 255) (And.intro (Nat.le_refl 0) (fun h => absurd rfl h))), ⟨by dsimp only; rw [List.length_append]; simp only [List.length_cons, List.length_nil]; omega, hc5, had5⟩, (And.intro (Nat.zero_le 255) (And.intro (Nat.le_refl 0) (fun h => absurd rfl h))), (.inr (.inl ⟨rfl, hf, by dsimp only; rw [List.length_append]; simp only [List.length_cons, List.length_nil]; omega, rfl⟩))⟩⟩)
      · skip
        have hE := rE_no ht
        have hBe := fun L => Tryz.rByteE b s t1 L htl1 hs ht
        have hno : ¬ (0 < n1 ∧ t1.1 = true) := fun h => ht h.2
        have hz : ∀ u : Rst, ¬ ((0 : Int) < 0 ∧ u.1 = true) := fun u h => absurd h.1 (by decide)
        rw [fin1_no s _ _ hno, bV_no ht, nxt_err ht, fin2_no s _ _ _ (hz _)] at hf
        clear hno hz ht
        obtain ⟨rfl, rfl, rfl, rfl⟩ : _ ∧ _ ∧ _ ∧ _ := ⟨congrArg (·.1) hf, congrArg (·.2.1) hf, congrArg (·.2.2.1) hf, congrArg (·.2.2.2) hf⟩
        clear hf
        conv => whnf
        repeat' (first
          | (first | ((with_reducible refine Br.tt ?_); conv => whnf) | ((with_reducible refine Br.ff ?_); conv => whnf) | ((with_reducible refine Br.dt ?_ ?_); (focus (first | assumption | omega)); conv => whnf) | ((with_reducible refine Br.df ?_ ?_); (focus (first | assumption | omega)); conv => whnf))
          | ((with_reducible refine Nd.mk ?_ ?_); (focus (first | omega | rfl | assumption | (simp; done))); conv => whnf)
          | ((with_reducible refine Nc.go' (fun _ => ?_)); conv => whnf)
          | (first | (refine LdN.at 0 rfl (by first | exact Nat.le_of_ble_eq_true rfl | (simp; done)) ?_; conv => whnf) | (refine LdN.at 1 rfl (by first | exact Nat.le_of_ble_eq_true rfl | (simp; done)) ?_; conv => whnf))
          | (first | (refine St.at 0 rfl (by first | exact Nat.le_of_ble_eq_true rfl | (simp; done)) rfl ?_; conv => whnf) | (refine St.at 1 rfl (by first | exact Nat.le_of_ble_eq_true rfl | (simp; done)) rfl ?_; conv => whnf))
          | (first | ((refine Cl.isAt 1 rfl (hT _) ?_); conv => whnf) | ((refine Cl.isAt 2 rfl (hB _) ?_); conv => whnf) | ((refine Cl.isAt 2 rfl (hB1 _) ?_); conv => whnf) | ((refine Cl.isAt 2 rfl (hBe _) ?_); conv => whnf) | ((refine Cl.isAt 2 rfl (Tryz.rErr b s _ _) ?_); conv => whnf)))
        all_goals try (exfalso; omega)
        all_goals exact Exs.of (⟨F0, none, 0, ([] : List Slt), none, 0, ([] : List Slt), none, 0, ([] : List Cli)⟩ : Cfg) (by (try dsimp only); (refine FEnt.ent ?_; (repeat (first | exact FEnt.rfl | (refine FEnt.at 2 rfl ?_; (try simp only [List.eraseIdx_cons_zero, List.eraseIdx_cons_succ, List.eraseIdx_zero, List.tail_cons])) | refine FEnt.nil ?_ | refine FEnt.drop ?_)); done)) ⟨⟨rfl, rfl, rfl, rfl⟩, (And.intro (Nat.zero_le 255) (And.intro (Nat.le_refl 0) (fun h => absurd rfl h))).2, (And.intro (Nat.zero_le 255) (And.intro (Nat.le_refl 0) (fun h => absurd rfl h))).2, (And.intro (Nat.zero_le 255) (And.intro (Nat.le_refl 0) (fun h => absurd rfl h))).2⟩ rfl
    · skip
      have hno : ¬ (0 < n1 ∧ t1.1 = true) := fun h => hn h.1
      rw [fin1_no s _ _ hno] at hf
      clear hno
      have hB2 := fun L => Tryz.rByte b s t1 L htl1 hs
      have hbd2 := bV_bd s t1
      have htl2 := nxt_le (n := 1) htl1
      generalize bV s t1 = n2 at *
      generalize nxt s 1 t1 = t2 at *
      by_cases hn : 0 < n2
      · by_cases ht : t2.1 = true
        · skip
          rw [fin2_go s _ _ _ hn ht] at hf
          have hE := rE_yes ht
          clear ht
          have q0 := fun L => Tryz.rTwo b s t2 L (by repeat (first | assumption | apply nxt_le)) hs
          have q1 := fun L => Tryz.rTwo b s (nxt s 2 t2) L (by repeat (first | assumption | apply nxt_le)) hs
          have q2 := fun L => Tryz.rByte b s (nxt s 2 (nxt s 2 t2)) L (by repeat (first | assumption | apply nxt_le)) hs
          have q3 := fun L => Tryz.rTwo b s (nxt s 1 (nxt s 2 (nxt s 2 t2))) L (by repeat (first | assumption | apply nxt_le)) hs
          have q4 := fun L => Tryz.rByte b s (nxt s 2 (nxt s 1 (nxt s 2 (nxt s 2 t2)))) L (by repeat (first | assumption | apply nxt_le)) hs
          have q5 := fun L => Tryz.rByte b s (nxt s 1 (nxt s 2 (nxt s 1 (nxt s 2 (nxt s 2 t2))))) L (by repeat (first | assumption | apply nxt_le)) hs
          have q6 := fun L => Tryz.rByte b s (nxt s 1 (nxt s 1 (nxt s 2 (nxt s 1 (nxt s 2 (nxt s 2 t2)))))) L (by repeat (first | assumption | apply nxt_le)) hs
          have q7 := fun L => Tryz.rByte b s (nxt s 1 (nxt s 1 (nxt s 1 (nxt s 2 (nxt s 1 (nxt s 2 (nxt s 2 t2))))))) L (by repeat (first | assumption | apply nxt_le)) hs
          have q8 := fun L => Tryz.rTwo b s (nxt s 1 (nxt s 1 (nxt s 1 (nxt s 1 (nxt s 2 (nxt s 1 (nxt s 2 (nxt s 2 t2)))))))) L (by repeat (first | assumption | apply nxt_le)) hs
          have q9 := fun L => Tryz.rByte b s (nxt s 2 (nxt s 1 (nxt s 1 (nxt s 1 (nxt s 1 (nxt s 2 (nxt s 1 (nxt s 2 (nxt s 2 t2))))))))) L (by repeat (first | assumption | apply nxt_le)) hs
          have hle : (nxt s 1 (nxt s 2 (nxt s 1 (nxt s 1 (nxt s 1 (nxt s 1 (nxt s 2 (nxt s 1 (nxt s 2 (nxt s 2 t2)))))))))).2 ≤ s.size := by repeat (first | assumption | apply nxt_le)
          rw [show rowC s t2 = (⟨wV s t2, wV s (nxt s 2 t2), bV s (nxt s 2 (nxt s 2 t2)), wV s (nxt s 1 (nxt s 2 (nxt s 2 t2))), bV s (nxt s 2 (nxt s 1 (nxt s 2 (nxt s 2 t2)))), bV s (nxt s 1 (nxt s 2 (nxt s 1 (nxt s 2 (nxt s 2 t2))))), bV s (nxt s 1 (nxt s 1 (nxt s 2 (nxt s 1 (nxt s 2 (nxt s 2 t2)))))), bV s (nxt s 1 (nxt s 1 (nxt s 1 (nxt s 2 (nxt s 1 (nxt s 2 (nxt s 2 t2))))))), wV s (nxt s 1 (nxt s 1 (nxt s 1 (nxt s 1 (nxt s 2 (nxt s 1 (nxt s 2 (nxt s 2 t2)))))))), bV s (nxt s 2 (nxt s 1 (nxt s 1 (nxt s 1 (nxt s 1 (nxt s 2 (nxt s 1 (nxt s 2 (nxt s 2 t2)))))))))⟩ : Cli) from rfl, show rowCn s t2 = (nxt s 1 (nxt s 2 (nxt s 1 (nxt s 1 (nxt s 1 (nxt s 1 (nxt s 2 (nxt s 1 (nxt s 2 (nxt s 2 t2)))))))))) from rfl] at hf
          generalize (nxt s 1 (nxt s 2 (nxt s 1 (nxt s 1 (nxt s 1 (nxt s 1 (nxt s 2 (nxt s 1 (nxt s 2 (nxt s 2 t2)))))))))) = u10 at *
          generalize bV s (nxt s 2 (nxt s 1 (nxt s 1 (nxt s 1 (nxt s 1 (nxt s 2 (nxt s 1 (nxt s 2 (nxt s 2 t2))))))))) = v9 at *
          generalize (nxt s 2 (nxt s 1 (nxt s 1 (nxt s 1 (nxt s 1 (nxt s 2 (nxt s 1 (nxt s 2 (nxt s 2 t2))))))))) = u9 at *
          generalize wV s (nxt s 1 (nxt s 1 (nxt s 1 (nxt s 1 (nxt s 2 (nxt s 1 (nxt s 2 (nxt s 2 t2)))))))) = v8 at *
          generalize (nxt s 1 (nxt s 1 (nxt s 1 (nxt s 1 (nxt s 2 (nxt s 1 (nxt s 2 (nxt s 2 t2)))))))) = u8 at *
          generalize bV s (nxt s 1 (nxt s 1 (nxt s 1 (nxt s 2 (nxt s 1 (nxt s 2 (nxt s 2 t2))))))) = v7 at *
          generalize (nxt s 1 (nxt s 1 (nxt s 1 (nxt s 2 (nxt s 1 (nxt s 2 (nxt s 2 t2))))))) = u7 at *
          generalize bV s (nxt s 1 (nxt s 1 (nxt s 2 (nxt s 1 (nxt s 2 (nxt s 2 t2)))))) = v6 at *
          generalize (nxt s 1 (nxt s 1 (nxt s 2 (nxt s 1 (nxt s 2 (nxt s 2 t2)))))) = u6 at *
          generalize bV s (nxt s 1 (nxt s 2 (nxt s 1 (nxt s 2 (nxt s 2 t2))))) = v5 at *
          generalize (nxt s 1 (nxt s 2 (nxt s 1 (nxt s 2 (nxt s 2 t2))))) = u5 at *
          generalize bV s (nxt s 2 (nxt s 1 (nxt s 2 (nxt s 2 t2)))) = v4 at *
          generalize (nxt s 2 (nxt s 1 (nxt s 2 (nxt s 2 t2)))) = u4 at *
          generalize wV s (nxt s 1 (nxt s 2 (nxt s 2 t2))) = v3 at *
          generalize (nxt s 1 (nxt s 2 (nxt s 2 t2))) = u3 at *
          generalize bV s (nxt s 2 (nxt s 2 t2)) = v2 at *
          generalize (nxt s 2 (nxt s 2 t2)) = u2 at *
          generalize wV s (nxt s 2 t2) = v1 at *
          generalize (nxt s 2 t2) = u1 at *
          generalize wV s t2 = v0 at *
          conv => whnf
          repeat' (first
            | (first | ((with_reducible refine Br.tt ?_); conv => whnf) | ((with_reducible refine Br.ff ?_); conv => whnf) | ((with_reducible refine Br.dt ?_ ?_); (focus (first | assumption | omega)); conv => whnf) | ((with_reducible refine Br.df ?_ ?_); (focus (first | assumption | omega)); conv => whnf))
            | ((with_reducible refine Ar.i64 ?_ ?_); (focus omega); conv => whnf)
            | ((with_reducible refine Nd.mk ?_ ?_); (focus (first | omega | rfl | assumption | (simp; done))); conv => whnf)
            | ((with_reducible refine Nc.go' (fun _ => ?_)); conv => whnf)
            | ((with_reducible refine Fk.mk ?_ ?_) <;> (conv => whnf))
            | (with_reducible exact True.intro)
            | (refine Ld.at 0 rfl rfl ?_; conv => whnf)
            | (first | (refine St.at 0 rfl (by first | exact Nat.le_of_ble_eq_true rfl | (simp; done)) rfl ?_; conv => whnf) | (refine St.at 2 rfl (by first | exact Nat.le_of_ble_eq_true rfl | (simp; done)) rfl ?_; conv => whnf))
            | ((with_reducible refine Dr.tree (id := 12) Tryz.tysOk rfl (.one 0 0 (.one 2 0 (.one 4 0 (.one 6 0 (.one 8 0 (.one 10 0 (.one 12 0 (.one 14 0 (.one 16 0 (.one 18 0 (.one 20 0 (.fork 1 1 (.one 3 3 (.one 5 3 (.one 7 3 (.one 9 3 (.one 11 3 (.one 13 3 (.one 15 3 (.one 17 3 (.one 19 3 (.one 21 3 (.one 22 0 (.one 23 2 (.one 24 3 (.one 25 0 (.one 26 3 .nil))))))))))))))) (.fork 3 3 (.fork 1 1 (.one 5 3 (.one 7 3 (.one 9 3 (.one 11 3 (.one 13 3 (.one 15 3 (.one 17 3 (.one 19 3 (.one 21 3 (.one 22 0 (.one 23 2 (.one 24 3 (.one 25 0 (.one 26 3 .nil)))))))))))))) (.fork 5 3 (.fork 1 1 (.one 7 3 (.one 9 3 (.one 11 3 (.one 13 3 (.one 15 3 (.one 17 3 (.one 19 3 (.one 21 3 (.one 22 0 (.one 23 2 (.one 24 3 (.one 25 0 (.one 26 3 .nil))))))))))))) (.fork 7 3 (.fork 1 1 (.one 9 3 (.one 11 3 (.one 13 3 (.one 15 3 (.one 17 3 (.one 19 3 (.one 21 3 (.one 22 0 (.one 23 2 (.one 24 3 (.one 25 0 (.one 26 3 .nil)))))))))))) (.fork 9 3 (.fork 1 1 (.one 11 3 (.one 13 3 (.one 15 3 (.one 17 3 (.one 19 3 (.one 21 3 (.one 22 0 (.one 23 2 (.one 24 3 (.one 25 0 (.one 26 3 .nil))))))))))) (.fork 11 3 (.fork 1 1 (.one 13 3 (.one 15 3 (.one 17 3 (.one 19 3 (.one 21 3 (.one 22 0 (.one 23 2 (.one 24 3 (.one 25 0 (.one 26 3 .nil)))))))))) (.fork 13 3 (.fork 1 1 (.one 15 3 (.one 17 3 (.one 19 3 (.one 21 3 (.one 22 0 (.one 23 2 (.one 24 3 (.one 25 0 (.one 26 3 .nil))))))))) (.fork 15 3 (.fork 1 1 (.one 17 3 (.one 19 3 (.one 21 3 (.one 22 0 (.one 23 2 (.one 24 3 (.one 25 0 (.one 26 3 .nil)))))))) (.fork 17 3 (.fork 1 1 (.one 19 3 (.one 21 3 (.one 22 0 (.one 23 2 (.one 24 3 (.one 25 0 (.one 26 3 .nil))))))) (.fork 19 3 (.fork 1 1 (.one 21 3 (.one 22 0 (.one 23 2 (.one 24 3 (.one 25 0 (.one 26 3 .nil)))))) (.fork 21 3 (.one 22 0 (.one 1 1 (.one 23 2 (.one 24 3 (.one 25 0 (.one 26 3 .nil)))))) .nil)) .nil)) .nil)) .nil)) .nil)) .nil)) .nil)) .nil)) .nil)) .nil))))))))))))) ?_ _ ?_ (fun _ _ h => h)); (focus kernel_rfl); conv => whnf)
            | (first | ((refine Cl.isAt 1 rfl (hT _) ?_); conv => whnf) | ((refine Cl.isAt 2 rfl (hB _) ?_); conv => whnf) | ((refine Cl.isAt 2 rfl (hB1 _) ?_); conv => whnf) | ((refine Cl.isAt 2 rfl (hB2 _) ?_); conv => whnf) | ((refine Cl.isAt 2 rfl (q0 _) ?_); conv => whnf) | ((refine Cl.isAt 2 rfl (q1 _) ?_); conv => whnf) | ((refine Cl.isAt 2 rfl (q2 _) ?_); conv => whnf) | ((refine Cl.isAt 2 rfl (q3 _) ?_); conv => whnf) | ((refine Cl.isAt 2 rfl (q4 _) ?_); conv => whnf) | ((refine Cl.isAt 2 rfl (q5 _) ?_); conv => whnf) | ((refine Cl.isAt 2 rfl (q6 _) ?_); conv => whnf) | ((refine Cl.isAt 2 rfl (q7 _) ?_); conv => whnf) | ((refine Cl.isAt 2 rfl (q8 _) ?_); conv => whnf) | ((refine Cl.isAt 2 rfl (q9 _) ?_); conv => whnf) | ((refine Cl.isAt 2 rfl (Tryz.rErr b s _ _) ?_); conv => whnf))
            | ((with_reducible refine (?_ : Sm _ (Builtin.append_ _ _ _) _ _)); ((with_reducible_and_instances apply (Sm.appNil (E := clE) (et := 46) Tryz.tysOk)); (rotate_left; (focus (exact Rd.ptc 0 rfl [⟨_, _, _, _, _, _, _, _, _, _⟩] rfl)); rotate_right; (focus rfl)); (focus rfl); (focus rfl); (focus rfl); (focus rfl); (focus rfl); (focus ((simp only [List.length_append, List.length_cons, List.length_nil]); omega)); (intro _ _ _ _); conv => whnf)))
          all_goals try (exfalso; omega)
          all_goals (rename_i b3 x5 a5 c5 hc5 had5; exact Jmp.mk ⟨(⟨n2 - 1, u10, b3, none, 0, ([] : List Slt), none, 0, ([] : List Slt), a5, c5, (([] : List Cli) ++ [⟨v0, v1, v2, v3, v4, v5, v6, v7, v8, v9⟩])⟩ : TbS), by kernel_rfl, by (try dsimp only); (refine FEnt.ent ?_; (repeat (first | exact FEnt.rfl | (refine FEnt.at 0 rfl ?_; (try simp only [List.eraseIdx_cons_zero, List.eraseIdx_cons_succ, List.eraseIdx_zero, List.tail_cons])) | (refine FEnt.at 1 rfl ?_; (try simp only [List.eraseIdx_cons_zero, List.eraseIdx_cons_succ, List.eraseIdx_zero, List.tail_cons])) | (refine FEnt.at 2 rfl ?_; (try simp only [List.eraseIdx_cons_zero, List.eraseIdx_cons_succ, List.eraseIdx_zero, List.tail_cons])) | refine FEnt.nil ?_ | refine FEnt.drop ?_)); done), ⟨⟨by dsimp only; omega, by dsimp only; omega⟩, hle, (And.intro (Nat.zero_le 255) (And.intro (Nat.le_refl 0) (fun h => absurd rfl h))), (And.intro (Nat.zero_le 255) (And.intro (Nat.le_refl 0) (fun h => absurd rfl h))), ⟨by dsimp only; rw [List.length_append]; simp only [List.length_cons, List.length_nil]; omega, hc5, had5⟩, (.inr (.inr ⟨rfl, hf, by dsimp only; rw [List.length_append]; simp only [List.length_cons, List.length_nil]; omega⟩))⟩⟩)
        · skip
          have hE := rE_no ht
          have hBe := fun L => Tryz.rByteE b s t2 L htl2 hs ht
          have hno : ¬ (0 < n2 ∧ t2.1 = true) := fun h => ht h.2
          have hz : ∀ u : Rst, ¬ ((0 : Int) < 0 ∧ u.1 = true) := fun u h => absurd h.1 (by decide)
          rw [fin2_no s _ _ _ hno] at hf
          clear hno hz ht
          obtain ⟨rfl, rfl, rfl, rfl⟩ : _ ∧ _ ∧ _ ∧ _ := ⟨congrArg (·.1) hf, congrArg (·.2.1) hf, congrArg (·.2.2.1) hf, congrArg (·.2.2.2) hf⟩
          clear hf
          conv => whnf
          repeat' (first
            | (first | ((with_reducible refine Br.tt ?_); conv => whnf) | ((with_reducible refine Br.ff ?_); conv => whnf) | ((with_reducible refine Br.dt ?_ ?_); (focus (first | assumption | omega)); conv => whnf) | ((with_reducible refine Br.df ?_ ?_); (focus (first | assumption | omega)); conv => whnf))
            | ((with_reducible refine Nd.mk ?_ ?_); (focus (first | omega | rfl | assumption | (simp; done))); conv => whnf)
            | ((with_reducible refine Nc.go' (fun _ => ?_)); conv => whnf)
            | (first | (refine LdN.at 0 rfl (by first | exact Nat.le_of_ble_eq_true rfl | (simp; done)) ?_; conv => whnf) | (refine LdN.at 1 rfl (by first | exact Nat.le_of_ble_eq_true rfl | (simp; done)) ?_; conv => whnf))
            | (first | (refine St.at 0 rfl (by first | exact Nat.le_of_ble_eq_true rfl | (simp; done)) rfl ?_; conv => whnf) | (refine St.at 1 rfl (by first | exact Nat.le_of_ble_eq_true rfl | (simp; done)) rfl ?_; conv => whnf))
            | (first | ((refine Cl.isAt 1 rfl (hT _) ?_); conv => whnf) | ((refine Cl.isAt 2 rfl (hB _) ?_); conv => whnf) | ((refine Cl.isAt 2 rfl (hB1 _) ?_); conv => whnf) | ((refine Cl.isAt 2 rfl (hB2 _) ?_); conv => whnf) | ((refine Cl.isAt 2 rfl (Tryz.rErr b s _ _) ?_); conv => whnf)))
          all_goals try (exfalso; omega)
          all_goals exact Exs.of (⟨F0, none, 0, ([] : List Slt), none, 0, ([] : List Slt), none, 0, ([] : List Cli)⟩ : Cfg) (by (try dsimp only); (refine FEnt.ent ?_; (repeat (first | exact FEnt.rfl | (refine FEnt.at 2 rfl ?_; (try simp only [List.eraseIdx_cons_zero, List.eraseIdx_cons_succ, List.eraseIdx_zero, List.tail_cons])) | refine FEnt.nil ?_ | refine FEnt.drop ?_)); done)) ⟨⟨rfl, rfl, rfl, rfl⟩, (And.intro (Nat.zero_le 255) (And.intro (Nat.le_refl 0) (fun h => absurd rfl h))).2, (And.intro (Nat.zero_le 255) (And.intro (Nat.le_refl 0) (fun h => absurd rfl h))).2, (And.intro (Nat.zero_le 255) (And.intro (Nat.le_refl 0) (fun h => absurd rfl h))).2⟩ rfl
      · skip
        have hno : ¬ (0 < n2 ∧ t2.1 = true) := fun h => hn h.1
        rw [fin2_no s _ _ _ hno] at hf
        clear hno
        obtain ⟨rfl, rfl, rfl, rfl⟩ : _ ∧ _ ∧ _ ∧ _ := ⟨congrArg (·.1) hf, congrArg (·.2.1) hf, congrArg (·.2.2.1) hf, congrArg (·.2.2.2) hf⟩
        clear hf
        conv => whnf
        repeat' (first
          | (first | ((with_reducible refine Br.ff ?_); conv => whnf) | ((with_reducible refine Br.df ?_ ?_); (focus (first | assumption | omega)); conv => whnf))
          | ((with_reducible refine Nd.mk ?_ ?_); (focus (first | omega | rfl | assumption | (simp; done))); conv => whnf)
          | ((with_reducible refine Nc.go' (fun _ => ?_)); conv => whnf)
          | (first | (refine LdN.at 0 rfl (by first | exact Nat.le_of_ble_eq_true rfl | (simp; done)) ?_; conv => whnf) | (refine LdN.at 1 rfl (by first | exact Nat.le_of_ble_eq_true rfl | (simp; done)) ?_; conv => whnf))
          | (first | (refine St.at 0 rfl (by first | exact Nat.le_of_ble_eq_true rfl | (simp; done)) rfl ?_; conv => whnf) | (refine St.at 1 rfl (by first | exact Nat.le_of_ble_eq_true rfl | (simp; done)) rfl ?_; conv => whnf))
          | (first | ((refine Cl.isAt 1 rfl (hT _) ?_); conv => whnf) | ((refine Cl.isAt 2 rfl (hB _) ?_); conv => whnf) | ((refine Cl.isAt 2 rfl (hB1 _) ?_); conv => whnf) | ((refine Cl.isAt 2 rfl (hB2 _) ?_); conv => whnf)))
        all_goals try (exfalso; omega)
        all_goals exact Exs.of (⟨F0, none, 0, ([] : List Slt), none, 0, ([] : List Slt), none, 0, ([] : List Cli)⟩ : Cfg) (by (try dsimp only); (refine FEnt.ent ?_; (repeat (first | exact FEnt.rfl | (refine FEnt.at 2 rfl ?_; (try simp only [List.eraseIdx_cons_zero, List.eraseIdx_cons_succ, List.eraseIdx_zero, List.tail_cons])) | refine FEnt.nil ?_ | refine FEnt.drop ?_)); done)) ⟨⟨rfl, rfl, rfl, rfl⟩, (And.intro (Nat.zero_le 255) (And.intro (Nat.le_refl 0) (fun h => absurd rfl h))).2, (And.intro (Nat.zero_le 255) (And.intro (Nat.le_refl 0) (fun h => absurd rfl h))).2, (And.intro (Nat.zero_le 255) (And.intro (Nat.le_refl 0) (fun h => absurd rfl h))).2⟩ rfl
set_option maxHeartbeats 40000000 in
theorem Tryz.tbL2 (b : Nat) (s : ByteArray) (t0 : Rst) (L : List HP) (ht0 : t0.2 ≤ s.size) (hs : s.size ≤ 1000000) : (Tryz.tbD b s t0 L ht0 hs).1.2.1 := by
  skip
  conv => whnf
  set_option tactic.hygienic false in intros
  by_cases hn : 0 < n0
  · by_cases ht : t1.1 = true
    · skip
      rw [fin0_go s _ hn ht] at hf
      have hE := rE_yes ht
      clear ht
      have q0 := fun L => Tryz.rByte b s t1 L (by repeat (first | assumption | apply nxt_le)) hs
      have q1 := fun L => Tryz.rTwo b s (nxt s 1 t1) L (by repeat (first | assumption | apply nxt_le)) hs
      have q2 := fun L => Tryz.rTwo b s (nxt s 2 (nxt s 1 t1)) L (by repeat (first | assumption | apply nxt_le)) hs
      have hle : (nxt s 2 (nxt s 2 (nxt s 1 t1))).2 ≤ s.size := by repeat (first | assumption | apply nxt_le)
      rw [show rowW s t1 = (bV s t1, wV s (nxt s 1 t1), wV s (nxt s 2 (nxt s 1 t1))) from rfl, show rowWn s t1 = (nxt s 2 (nxt s 2 (nxt s 1 t1))) from rfl] at hf
      generalize (nxt s 2 (nxt s 2 (nxt s 1 t1))) = u3 at *
      generalize wV s (nxt s 2 (nxt s 1 t1)) = v2 at *
      generalize (nxt s 2 (nxt s 1 t1)) = u2 at *
      generalize wV s (nxt s 1 t1) = v1 at *
      generalize (nxt s 1 t1) = u1 at *
      generalize bV s t1 = v0 at *
      conv => whnf
      repeat' (first
        | (first | ((with_reducible refine Br.tt ?_); conv => whnf) | ((with_reducible refine Br.dt ?_ ?_); (focus (first | assumption | omega)); conv => whnf))
        | ((with_reducible refine Ar.i64 ?_ ?_); (focus omega); conv => whnf)
        | ((with_reducible refine Nd.mk ?_ ?_); (focus (first | omega | rfl | assumption | (simp; done))); conv => whnf)
        | ((with_reducible refine Nc.go' (fun _ => ?_)); conv => whnf)
        | ((with_reducible refine Fk.mk ?_ ?_) <;> (conv => whnf))
        | (with_reducible exact True.intro)
        | (refine Ld.at 0 rfl rfl ?_; conv => whnf)
        | (refine St.at 2 rfl (by first | exact Nat.le_of_ble_eq_true rfl | (simp; done)) rfl ?_; conv => whnf)
        | ((with_reducible refine Dr.tree (id := 4) Tryz.tysOk rfl (.one 0 0 (.one 2 0 (.one 4 0 (.one 6 0 (.fork 1 1 (.one 3 3 (.one 5 3 (.one 7 3 (.one 8 0 (.one 9 2 (.one 10 3 (.one 11 0 (.one 12 3 .nil)))))))) (.fork 3 3 (.fork 1 1 (.one 5 3 (.one 7 3 (.one 8 0 (.one 9 2 (.one 10 3 (.one 11 0 (.one 12 3 .nil))))))) (.fork 5 3 (.fork 1 1 (.one 7 3 (.one 8 0 (.one 9 2 (.one 10 3 (.one 11 0 (.one 12 3 .nil)))))) (.fork 7 3 (.one 8 0 (.one 1 1 (.one 9 2 (.one 10 3 (.one 11 0 (.one 12 3 .nil)))))) .nil)) .nil)) .nil)))))) ?_ _ ?_ (fun _ _ h => h)); (focus kernel_rfl); conv => whnf)
        | (first | ((refine Cl.isAt 4 rfl (q0 _) ?_); conv => whnf) | ((refine Cl.isAt 4 rfl (q1 _) ?_); conv => whnf) | ((refine Cl.isAt 4 rfl (q2 _) ?_); conv => whnf) | ((refine Cl.isAt 4 rfl (Tryz.rErr b s _ _) ?_); conv => whnf))
        | ((with_reducible refine (?_ : Sm _ (Builtin.append_ _ _ _) _ _)); (((with_reducible apply (Sm.appAt (E := slE) (et := 43) Tryz.tysOk 2)); (focus rfl)); (rotate_left; (focus (exact Rd.ptc 0 rfl [(_, _, _)] rfl)); rotate_right; (focus rfl)); (focus rfl); (focus rfl); (focus rfl); (focus rfl); (focus rfl); (focus rfl); (focus ((simp only [List.length_append, List.length_cons, List.length_nil]); omega)); (intro _ _ _ _); conv => whnf)))
      all_goals try (exfalso; omega)
      all_goals (rename_i a5 c5 hc5 had5; exact Agn.mk ⟨(⟨n0 - 1, u3, b3, a5, c5, (W ++ [(v0, v1, v2)]), sa, sc, ([] : List Slt), ca, cc, ([] : List Cli)⟩ : TbS), by kernel_rfl, by (try dsimp only); (refine FEnt.ent ?_; (repeat (first | exact FEnt.rfl | (refine FEnt.at 0 rfl ?_; (try simp only [List.eraseIdx_cons_zero, List.eraseIdx_cons_succ, List.eraseIdx_zero, List.tail_cons])) | (refine FEnt.at 1 rfl ?_; (try simp only [List.eraseIdx_cons_zero, List.eraseIdx_cons_succ, List.eraseIdx_zero, List.tail_cons])) | (refine FEnt.at 2 rfl ?_; (try simp only [List.eraseIdx_cons_zero, List.eraseIdx_cons_succ, List.eraseIdx_zero, List.tail_cons])) | refine FEnt.drop ?_)); done), ⟨⟨by dsimp only; omega, by dsimp only; omega⟩, hle, ⟨by dsimp only; rw [List.length_append]; simp only [List.length_cons, List.length_nil]; omega, hc5, had5⟩, (And.intro (Nat.zero_le 255) (And.intro s2 s3)), (And.intro (Nat.zero_le 255) (And.intro x2 x3)), (.inl ⟨rfl, hf, by dsimp only; rw [List.length_append]; simp only [List.length_cons, List.length_nil]; omega, rfl, rfl⟩)⟩, by (try dsimp only); omega⟩)
    · skip
      have hE := rE_no ht
      have hBe := fun L => Tryz.rByteE b s t1 L htl0 hs ht
      have hno : ¬ (0 < n0 ∧ t1.1 = true) := fun h => ht h.2
      have hz : ∀ u : Rst, ¬ ((0 : Int) < 0 ∧ u.1 = true) := fun u h => absurd h.1 (by decide)
      rw [fin0_no s _ hno, bV_no ht, nxt_err ht, fin1_no s _ _ (hz _), bV_no ht, nxt_err ht, fin2_no s _ _ _ (hz _)] at hf
      clear hno hz ht
      obtain ⟨rfl, rfl, rfl, rfl⟩ : _ ∧ _ ∧ _ ∧ _ := ⟨congrArg (·.1) hf, congrArg (·.2.1) hf, congrArg (·.2.2.1) hf, congrArg (·.2.2.2) hf⟩
      clear hf
      conv => whnf
      repeat' (first
        | (first | ((with_reducible refine Br.tt ?_); conv => whnf) | ((with_reducible refine Br.ff ?_); conv => whnf) | ((with_reducible refine Br.dt ?_ ?_); (focus (first | assumption | omega)); conv => whnf) | ((with_reducible refine Br.df ?_ ?_); (focus (first | assumption | omega)); conv => whnf))
        | ((with_reducible refine Nd.mk ?_ ?_); (focus (first | omega | rfl | assumption | (simp; done))); conv => whnf)
        | (first | (refine LdN.at 0 rfl (by first | exact Nat.le_of_ble_eq_true rfl | (simp; done)) ?_; conv => whnf) | (refine LdN.at 5 rfl (by first | exact Nat.le_of_ble_eq_true rfl | (simp; done)) ?_; conv => whnf))
        | (refine St.at 5 rfl (by first | exact Nat.le_of_ble_eq_true rfl | (simp; done)) rfl ?_; conv => whnf)
        | (first | ((with_reducible refine (?_ : Cl _ 94 _ _ _ _)); (refine Cl.isAt 4 rfl (hBe _) ?_); conv => whnf) | ((refine Cl.isAt 4 rfl (Tryz.rErr b s _ _) ?_); conv => whnf)))
      all_goals try (exfalso; omega)
      all_goals exact Exs.of (⟨F0, wa, wc, W, sa, sc, ([] : List Slt), ca, cc, ([] : List Cli)⟩ : Cfg) (by (try dsimp only); (refine FEnt.ent ?_; (repeat (first | exact FEnt.rfl | (refine FEnt.at 1 rfl ?_; (try simp only [List.eraseIdx_cons_zero, List.eraseIdx_cons_succ, List.eraseIdx_zero, List.tail_cons])) | refine FEnt.drop ?_)); done)) ⟨⟨rfl, rfl, rfl, rfl⟩, (And.intro w1 (And.intro w2 w3)).2, (And.intro (Nat.zero_le 255) (And.intro s2 s3)).2, (And.intro (Nat.zero_le 255) (And.intro x2 x3)).2⟩ rfl
  · skip
    have hno : ¬ (0 < n0 ∧ t1.1 = true) := fun h => hn h.1
    rw [fin0_no s _ hno] at hf
    clear hno
    have hB1 := fun L => Tryz.rByte b s t1 L htl0 hs
    have hbd1 := bV_bd s t1
    have htl1 := nxt_le (n := 1) htl0
    generalize bV s t1 = n1 at *
    generalize nxt s 1 t1 = t1 at *
    by_cases hn : 0 < n1
    · by_cases ht : t1.1 = true
      · skip
        rw [fin1_go s _ _ hn ht] at hf
        have hE := rE_yes ht
        clear ht
        have q0 := fun L => Tryz.rByte b s t1 L (by repeat (first | assumption | apply nxt_le)) hs
        have q1 := fun L => Tryz.rTwo b s (nxt s 1 t1) L (by repeat (first | assumption | apply nxt_le)) hs
        have q2 := fun L => Tryz.rTwo b s (nxt s 2 (nxt s 1 t1)) L (by repeat (first | assumption | apply nxt_le)) hs
        have hle : (nxt s 2 (nxt s 2 (nxt s 1 t1))).2 ≤ s.size := by repeat (first | assumption | apply nxt_le)
        rw [show rowW s t1 = (bV s t1, wV s (nxt s 1 t1), wV s (nxt s 2 (nxt s 1 t1))) from rfl, show rowWn s t1 = (nxt s 2 (nxt s 2 (nxt s 1 t1))) from rfl] at hf
        generalize (nxt s 2 (nxt s 2 (nxt s 1 t1))) = u3 at *
        generalize wV s (nxt s 2 (nxt s 1 t1)) = v2 at *
        generalize (nxt s 2 (nxt s 1 t1)) = u2 at *
        generalize wV s (nxt s 1 t1) = v1 at *
        generalize (nxt s 1 t1) = u1 at *
        generalize bV s t1 = v0 at *
        conv => whnf
        repeat' (first
          | (first | ((with_reducible refine Br.tt ?_); conv => whnf) | ((with_reducible refine Br.ff ?_); conv => whnf) | ((with_reducible refine Br.dt ?_ ?_); (focus (first | assumption | omega)); conv => whnf) | ((with_reducible refine Br.df ?_ ?_); (focus (first | assumption | omega)); conv => whnf))
          | ((with_reducible refine Ar.i64 ?_ ?_); (focus omega); conv => whnf)
          | ((with_reducible refine Nd.mk ?_ ?_); (focus (first | omega | rfl | assumption | (simp; done))); conv => whnf)
          | ((with_reducible refine Nc.go' (fun _ => ?_)); conv => whnf)
          | ((with_reducible refine Fk.mk ?_ ?_) <;> (conv => whnf))
          | (with_reducible exact True.intro)
          | (refine Ld.at 0 rfl rfl ?_; conv => whnf)
          | (refine St.at 2 rfl (by first | exact Nat.le_of_ble_eq_true rfl | (simp; done)) rfl ?_; conv => whnf)
          | ((with_reducible refine Dr.tree (id := 8) Tryz.tysOk rfl (.one 0 0 (.one 2 0 (.one 4 0 (.one 6 0 (.fork 1 1 (.one 3 3 (.one 5 3 (.one 7 3 (.one 8 0 (.one 9 2 (.one 10 3 (.one 11 0 (.one 12 3 .nil)))))))) (.fork 3 3 (.fork 1 1 (.one 5 3 (.one 7 3 (.one 8 0 (.one 9 2 (.one 10 3 (.one 11 0 (.one 12 3 .nil))))))) (.fork 5 3 (.fork 1 1 (.one 7 3 (.one 8 0 (.one 9 2 (.one 10 3 (.one 11 0 (.one 12 3 .nil)))))) (.fork 7 3 (.one 8 0 (.one 1 1 (.one 9 2 (.one 10 3 (.one 11 0 (.one 12 3 .nil)))))) .nil)) .nil)) .nil)))))) ?_ _ ?_ (fun _ _ h => h)); (focus kernel_rfl); conv => whnf)
          | (first | ((refine Cl.isAt 4 rfl (hB1 _) ?_); conv => whnf) | ((refine Cl.isAt 4 rfl (q0 _) ?_); conv => whnf) | ((refine Cl.isAt 4 rfl (q1 _) ?_); conv => whnf) | ((refine Cl.isAt 4 rfl (q2 _) ?_); conv => whnf) | ((refine Cl.isAt 4 rfl (Tryz.rErr b s _ _) ?_); conv => whnf))
          | ((with_reducible refine (?_ : Sm _ (Builtin.append_ _ _ _) _ _)); (((with_reducible apply (Sm.appAt (E := slE) (et := 44) Tryz.tysOk 3)); (focus rfl)); (rotate_left; (focus (exact Rd.ptc 0 rfl [(_, _, _)] rfl)); rotate_right; (focus rfl)); (focus rfl); (focus rfl); (focus rfl); (focus rfl); (focus rfl); (focus rfl); (focus ((simp only [List.length_append, List.length_cons, List.length_nil]); omega)); (intro _ _ _ _); conv => whnf)))
        all_goals try (exfalso; omega)
        all_goals (rename_i a5 c5 hc5 had5; exact Agn.mk ⟨(⟨n1 - 1, u3, b3, wa, wc, W, a5, c5, (([] : List Slt) ++ [(v0, v1, v2)]), ca, cc, ([] : List Cli)⟩ : TbS), by kernel_rfl, by (try dsimp only); (refine FEnt.ent ?_; (repeat (first | exact FEnt.rfl | (refine FEnt.at 0 rfl ?_; (try simp only [List.eraseIdx_cons_zero, List.eraseIdx_cons_succ, List.eraseIdx_zero, List.tail_cons])) | (refine FEnt.at 1 rfl ?_; (try simp only [List.eraseIdx_cons_zero, List.eraseIdx_cons_succ, List.eraseIdx_zero, List.tail_cons])) | (refine FEnt.at 2 rfl ?_; (try simp only [List.eraseIdx_cons_zero, List.eraseIdx_cons_succ, List.eraseIdx_zero, List.tail_cons])) | refine FEnt.drop ?_)); done), ⟨⟨by dsimp only; omega, by dsimp only; omega⟩, hle, (And.intro w1 (And.intro w2 w3)), ⟨by dsimp only; rw [List.length_append]; simp only [List.length_cons, List.length_nil]; omega, hc5, had5⟩, (And.intro (Nat.zero_le 255) (And.intro x2 x3)), (.inr (.inl ⟨rfl, hf, by dsimp only; rw [List.length_append]; simp only [List.length_cons, List.length_nil]; omega, rfl⟩))⟩, by (try dsimp only); omega⟩)
      · skip
        have hE := rE_no ht
        have hBe := fun L => Tryz.rByteE b s t1 L htl1 hs ht
        have hno : ¬ (0 < n1 ∧ t1.1 = true) := fun h => ht h.2
        have hz : ∀ u : Rst, ¬ ((0 : Int) < 0 ∧ u.1 = true) := fun u h => absurd h.1 (by decide)
        rw [fin1_no s _ _ hno, bV_no ht, nxt_err ht, fin2_no s _ _ _ (hz _)] at hf
        clear hno hz ht
        obtain ⟨rfl, rfl, rfl, rfl⟩ : _ ∧ _ ∧ _ ∧ _ := ⟨congrArg (·.1) hf, congrArg (·.2.1) hf, congrArg (·.2.2.1) hf, congrArg (·.2.2.2) hf⟩
        clear hf
        conv => whnf
        repeat' (first
          | (first | ((with_reducible refine Br.tt ?_); conv => whnf) | ((with_reducible refine Br.ff ?_); conv => whnf) | ((with_reducible refine Br.dt ?_ ?_); (focus (first | assumption | omega)); conv => whnf) | ((with_reducible refine Br.df ?_ ?_); (focus (first | assumption | omega)); conv => whnf))
          | ((with_reducible refine Nd.mk ?_ ?_); (focus (first | omega | rfl | assumption | (simp; done))); conv => whnf)
          | (first | (refine LdN.at 0 rfl (by first | exact Nat.le_of_ble_eq_true rfl | (simp; done)) ?_; conv => whnf) | (refine LdN.at 5 rfl (by first | exact Nat.le_of_ble_eq_true rfl | (simp; done)) ?_; conv => whnf))
          | (refine St.at 5 rfl (by first | exact Nat.le_of_ble_eq_true rfl | (simp; done)) rfl ?_; conv => whnf)
          | (first | ((refine Cl.isAt 4 rfl (hB1 _) ?_); conv => whnf) | ((with_reducible refine (?_ : Cl _ 94 _ _ _ _)); (refine Cl.isAt 4 rfl (hBe _) ?_); conv => whnf) | ((refine Cl.isAt 4 rfl (Tryz.rErr b s _ _) ?_); conv => whnf)))
        all_goals try (exfalso; omega)
        all_goals exact Exs.of (⟨F0, wa, wc, W, sa, sc, ([] : List Slt), ca, cc, ([] : List Cli)⟩ : Cfg) (by (try dsimp only); (refine FEnt.ent ?_; (repeat (first | exact FEnt.rfl | (refine FEnt.at 1 rfl ?_; (try simp only [List.eraseIdx_cons_zero, List.eraseIdx_cons_succ, List.eraseIdx_zero, List.tail_cons])) | refine FEnt.drop ?_)); done)) ⟨⟨rfl, rfl, rfl, rfl⟩, (And.intro w1 (And.intro w2 w3)).2, (And.intro (Nat.zero_le 255) (And.intro s2 s3)).2, (And.intro (Nat.zero_le 255) (And.intro x2 x3)).2⟩ rfl
    · skip
      have hno : ¬ (0 < n1 ∧ t1.1 = true) := fun h => hn h.1
      rw [fin1_no s _ _ hno] at hf
      clear hno
      have hB2 := fun L => Tryz.rByte b s t1 L htl1 hs
      have hbd2 := bV_bd s t1
      have htl2 := nxt_le (n := 1) htl1
      generalize bV s t1 = n2 at *
      generalize nxt s 1 t1 = t2 at *
      by_cases hn : 0 < n2
      · by_cases ht : t2.1 = true
        · skip
          rw [fin2_go s _ _ _ hn ht] at hf
          have hE := rE_yes ht
          clear ht
          have q0 := fun L => Tryz.rTwo b s t2 L (by repeat (first | assumption | apply nxt_le)) hs
          have q1 := fun L => Tryz.rTwo b s (nxt s 2 t2) L (by repeat (first | assumption | apply nxt_le)) hs
          have q2 := fun L => Tryz.rByte b s (nxt s 2 (nxt s 2 t2)) L (by repeat (first | assumption | apply nxt_le)) hs
          have q3 := fun L => Tryz.rTwo b s (nxt s 1 (nxt s 2 (nxt s 2 t2))) L (by repeat (first | assumption | apply nxt_le)) hs
          have q4 := fun L => Tryz.rByte b s (nxt s 2 (nxt s 1 (nxt s 2 (nxt s 2 t2)))) L (by repeat (first | assumption | apply nxt_le)) hs
          have q5 := fun L => Tryz.rByte b s (nxt s 1 (nxt s 2 (nxt s 1 (nxt s 2 (nxt s 2 t2))))) L (by repeat (first | assumption | apply nxt_le)) hs
          have q6 := fun L => Tryz.rByte b s (nxt s 1 (nxt s 1 (nxt s 2 (nxt s 1 (nxt s 2 (nxt s 2 t2)))))) L (by repeat (first | assumption | apply nxt_le)) hs
          have q7 := fun L => Tryz.rByte b s (nxt s 1 (nxt s 1 (nxt s 1 (nxt s 2 (nxt s 1 (nxt s 2 (nxt s 2 t2))))))) L (by repeat (first | assumption | apply nxt_le)) hs
          have q8 := fun L => Tryz.rTwo b s (nxt s 1 (nxt s 1 (nxt s 1 (nxt s 1 (nxt s 2 (nxt s 1 (nxt s 2 (nxt s 2 t2)))))))) L (by repeat (first | assumption | apply nxt_le)) hs
          have q9 := fun L => Tryz.rByte b s (nxt s 2 (nxt s 1 (nxt s 1 (nxt s 1 (nxt s 1 (nxt s 2 (nxt s 1 (nxt s 2 (nxt s 2 t2))))))))) L (by repeat (first | assumption | apply nxt_le)) hs
          have hle : (nxt s 1 (nxt s 2 (nxt s 1 (nxt s 1 (nxt s 1 (nxt s 1 (nxt s 2 (nxt s 1 (nxt s 2 (nxt s 2 t2)))))))))).2 ≤ s.size := by repeat (first | assumption | apply nxt_le)
          rw [show rowC s t2 = (⟨wV s t2, wV s (nxt s 2 t2), bV s (nxt s 2 (nxt s 2 t2)), wV s (nxt s 1 (nxt s 2 (nxt s 2 t2))), bV s (nxt s 2 (nxt s 1 (nxt s 2 (nxt s 2 t2)))), bV s (nxt s 1 (nxt s 2 (nxt s 1 (nxt s 2 (nxt s 2 t2))))), bV s (nxt s 1 (nxt s 1 (nxt s 2 (nxt s 1 (nxt s 2 (nxt s 2 t2)))))), bV s (nxt s 1 (nxt s 1 (nxt s 1 (nxt s 2 (nxt s 1 (nxt s 2 (nxt s 2 t2))))))), wV s (nxt s 1 (nxt s 1 (nxt s 1 (nxt s 1 (nxt s 2 (nxt s 1 (nxt s 2 (nxt s 2 t2)))))))), bV s (nxt s 2 (nxt s 1 (nxt s 1 (nxt s 1 (nxt s 1 (nxt s 2 (nxt s 1 (nxt s 2 (nxt s 2 t2)))))))))⟩ : Cli) from rfl, show rowCn s t2 = (nxt s 1 (nxt s 2 (nxt s 1 (nxt s 1 (nxt s 1 (nxt s 1 (nxt s 2 (nxt s 1 (nxt s 2 (nxt s 2 t2)))))))))) from rfl] at hf
          generalize (nxt s 1 (nxt s 2 (nxt s 1 (nxt s 1 (nxt s 1 (nxt s 1 (nxt s 2 (nxt s 1 (nxt s 2 (nxt s 2 t2)))))))))) = u10 at *
          generalize bV s (nxt s 2 (nxt s 1 (nxt s 1 (nxt s 1 (nxt s 1 (nxt s 2 (nxt s 1 (nxt s 2 (nxt s 2 t2))))))))) = v9 at *
          generalize (nxt s 2 (nxt s 1 (nxt s 1 (nxt s 1 (nxt s 1 (nxt s 2 (nxt s 1 (nxt s 2 (nxt s 2 t2))))))))) = u9 at *
          generalize wV s (nxt s 1 (nxt s 1 (nxt s 1 (nxt s 1 (nxt s 2 (nxt s 1 (nxt s 2 (nxt s 2 t2)))))))) = v8 at *
          generalize (nxt s 1 (nxt s 1 (nxt s 1 (nxt s 1 (nxt s 2 (nxt s 1 (nxt s 2 (nxt s 2 t2)))))))) = u8 at *
          generalize bV s (nxt s 1 (nxt s 1 (nxt s 1 (nxt s 2 (nxt s 1 (nxt s 2 (nxt s 2 t2))))))) = v7 at *
          generalize (nxt s 1 (nxt s 1 (nxt s 1 (nxt s 2 (nxt s 1 (nxt s 2 (nxt s 2 t2))))))) = u7 at *
          generalize bV s (nxt s 1 (nxt s 1 (nxt s 2 (nxt s 1 (nxt s 2 (nxt s 2 t2)))))) = v6 at *
          generalize (nxt s 1 (nxt s 1 (nxt s 2 (nxt s 1 (nxt s 2 (nxt s 2 t2)))))) = u6 at *
          generalize bV s (nxt s 1 (nxt s 2 (nxt s 1 (nxt s 2 (nxt s 2 t2))))) = v5 at *
          generalize (nxt s 1 (nxt s 2 (nxt s 1 (nxt s 2 (nxt s 2 t2))))) = u5 at *
          generalize bV s (nxt s 2 (nxt s 1 (nxt s 2 (nxt s 2 t2)))) = v4 at *
          generalize (nxt s 2 (nxt s 1 (nxt s 2 (nxt s 2 t2)))) = u4 at *
          generalize wV s (nxt s 1 (nxt s 2 (nxt s 2 t2))) = v3 at *
          generalize (nxt s 1 (nxt s 2 (nxt s 2 t2))) = u3 at *
          generalize bV s (nxt s 2 (nxt s 2 t2)) = v2 at *
          generalize (nxt s 2 (nxt s 2 t2)) = u2 at *
          generalize wV s (nxt s 2 t2) = v1 at *
          generalize (nxt s 2 t2) = u1 at *
          generalize wV s t2 = v0 at *
          conv => whnf
          repeat' (first
            | (first | ((with_reducible refine Br.tt ?_); conv => whnf) | ((with_reducible refine Br.ff ?_); conv => whnf) | ((with_reducible refine Br.dt ?_ ?_); (focus (first | assumption | omega)); conv => whnf) | ((with_reducible refine Br.df ?_ ?_); (focus (first | assumption | omega)); conv => whnf))
            | ((with_reducible refine Ar.i64 ?_ ?_); (focus omega); conv => whnf)
            | ((with_reducible refine Nd.mk ?_ ?_); (focus (first | omega | rfl | assumption | (simp; done))); conv => whnf)
            | ((with_reducible refine Nc.go' (fun _ => ?_)); conv => whnf)
            | ((with_reducible refine Fk.mk ?_ ?_) <;> (conv => whnf))
            | (with_reducible exact True.intro)
            | (refine Ld.at 0 rfl rfl ?_; conv => whnf)
            | (refine St.at 2 rfl (by first | exact Nat.le_of_ble_eq_true rfl | (simp; done)) rfl ?_; conv => whnf)
            | ((with_reducible refine Dr.tree (id := 12) Tryz.tysOk rfl (.one 0 0 (.one 2 0 (.one 4 0 (.one 6 0 (.one 8 0 (.one 10 0 (.one 12 0 (.one 14 0 (.one 16 0 (.one 18 0 (.one 20 0 (.fork 1 1 (.one 3 3 (.one 5 3 (.one 7 3 (.one 9 3 (.one 11 3 (.one 13 3 (.one 15 3 (.one 17 3 (.one 19 3 (.one 21 3 (.one 22 0 (.one 23 2 (.one 24 3 (.one 25 0 (.one 26 3 .nil))))))))))))))) (.fork 3 3 (.fork 1 1 (.one 5 3 (.one 7 3 (.one 9 3 (.one 11 3 (.one 13 3 (.one 15 3 (.one 17 3 (.one 19 3 (.one 21 3 (.one 22 0 (.one 23 2 (.one 24 3 (.one 25 0 (.one 26 3 .nil)))))))))))))) (.fork 5 3 (.fork 1 1 (.one 7 3 (.one 9 3 (.one 11 3 (.one 13 3 (.one 15 3 (.one 17 3 (.one 19 3 (.one 21 3 (.one 22 0 (.one 23 2 (.one 24 3 (.one 25 0 (.one 26 3 .nil))))))))))))) (.fork 7 3 (.fork 1 1 (.one 9 3 (.one 11 3 (.one 13 3 (.one 15 3 (.one 17 3 (.one 19 3 (.one 21 3 (.one 22 0 (.one 23 2 (.one 24 3 (.one 25 0 (.one 26 3 .nil)))))))))))) (.fork 9 3 (.fork 1 1 (.one 11 3 (.one 13 3 (.one 15 3 (.one 17 3 (.one 19 3 (.one 21 3 (.one 22 0 (.one 23 2 (.one 24 3 (.one 25 0 (.one 26 3 .nil))))))))))) (.fork 11 3 (.fork 1 1 (.one 13 3 (.one 15 3 (.one 17 3 (.one 19 3 (.one 21 3 (.one 22 0 (.one 23 2 (.one 24 3 (.one 25 0 (.one 26 3 .nil)))))))))) (.fork 13 3 (.fork 1 1 (.one 15 3 (.one 17 3 (.one 19 3 (.one 21 3 (.one 22 0 (.one 23 2 (.one 24 3 (.one 25 0 (.one 26 3 .nil))))))))) (.fork 15 3 (.fork 1 1 (.one 17 3 (.one 19 3 (.one 21 3 (.one 22 0 (.one 23 2 (.one 24 3 (.one 25 0 (.one 26 3 .nil)))))))) (.fork 17 3 (.fork 1 1 (.one 19 3 (.one 21 3 (.one 22 0 (.one 23 2 (.one 24 3 (.one 25 0 (.one 26 3 .nil))))))) (.fork 19 3 (.fork 1 1 (.one 21 3 (.one 22 0 (.one 23 2 (.one 24 3 (.one 25 0 (.one 26 3 .nil)))))) (.fork 21 3 (.one 22 0 (.one 1 1 (.one 23 2 (.one 24 3 (.one 25 0 (.one 26 3 .nil)))))) .nil)) .nil)) .nil)) .nil)) .nil)) .nil)) .nil)) .nil)) .nil)) .nil))))))))))))) ?_ _ ?_ (fun _ _ h => h)); (focus kernel_rfl); conv => whnf)
            | (first | ((refine Cl.isAt 4 rfl (hB1 _) ?_); conv => whnf) | ((refine Cl.isAt 4 rfl (hB2 _) ?_); conv => whnf) | ((refine Cl.isAt 4 rfl (q0 _) ?_); conv => whnf) | ((refine Cl.isAt 4 rfl (q1 _) ?_); conv => whnf) | ((refine Cl.isAt 4 rfl (q2 _) ?_); conv => whnf) | ((refine Cl.isAt 4 rfl (q3 _) ?_); conv => whnf) | ((refine Cl.isAt 4 rfl (q4 _) ?_); conv => whnf) | ((refine Cl.isAt 4 rfl (q5 _) ?_); conv => whnf) | ((refine Cl.isAt 4 rfl (q6 _) ?_); conv => whnf) | ((refine Cl.isAt 4 rfl (q7 _) ?_); conv => whnf) | ((refine Cl.isAt 4 rfl (q8 _) ?_); conv => whnf) | ((refine Cl.isAt 4 rfl (q9 _) ?_); conv => whnf) | ((refine Cl.isAt 4 rfl (Tryz.rErr b s _ _) ?_); conv => whnf))
            | ((with_reducible refine (?_ : Sm _ (Builtin.append_ _ _ _) _ _)); (((with_reducible apply (Sm.appAt (E := clE) (et := 46) Tryz.tysOk 4)); (focus rfl)); (rotate_left; (focus (exact Rd.ptc 0 rfl [⟨_, _, _, _, _, _, _, _, _, _⟩] rfl)); rotate_right; (focus rfl)); (focus rfl); (focus rfl); (focus rfl); (focus rfl); (focus rfl); (focus rfl); (focus ((simp only [List.length_append, List.length_cons, List.length_nil]); omega)); (intro _ _ _ _); conv => whnf)))
          all_goals try (exfalso; omega)
          all_goals (rename_i a5 c5 hc5 had5; exact Agn.mk ⟨(⟨n2 - 1, u10, b3, wa, wc, W, sa, sc, ([] : List Slt), a5, c5, (([] : List Cli) ++ [⟨v0, v1, v2, v3, v4, v5, v6, v7, v8, v9⟩])⟩ : TbS), by kernel_rfl, by (try dsimp only); (refine FEnt.ent ?_; (repeat (first | exact FEnt.rfl | (refine FEnt.at 0 rfl ?_; (try simp only [List.eraseIdx_cons_zero, List.eraseIdx_cons_succ, List.eraseIdx_zero, List.tail_cons])) | (refine FEnt.at 1 rfl ?_; (try simp only [List.eraseIdx_cons_zero, List.eraseIdx_cons_succ, List.eraseIdx_zero, List.tail_cons])) | (refine FEnt.at 2 rfl ?_; (try simp only [List.eraseIdx_cons_zero, List.eraseIdx_cons_succ, List.eraseIdx_zero, List.tail_cons])) | refine FEnt.drop ?_)); done), ⟨⟨by dsimp only; omega, by dsimp only; omega⟩, hle, (And.intro w1 (And.intro w2 w3)), (And.intro (Nat.zero_le 255) (And.intro s2 s3)), ⟨by dsimp only; rw [List.length_append]; simp only [List.length_cons, List.length_nil]; omega, hc5, had5⟩, (.inr (.inr ⟨rfl, hf, by dsimp only; rw [List.length_append]; simp only [List.length_cons, List.length_nil]; omega⟩))⟩, by (try dsimp only); omega⟩)
        · skip
          have hE := rE_no ht
          have hBe := fun L => Tryz.rByteE b s t2 L htl2 hs ht
          have hno : ¬ (0 < n2 ∧ t2.1 = true) := fun h => ht h.2
          have hz : ∀ u : Rst, ¬ ((0 : Int) < 0 ∧ u.1 = true) := fun u h => absurd h.1 (by decide)
          rw [fin2_no s _ _ _ hno] at hf
          clear hno hz ht
          obtain ⟨rfl, rfl, rfl, rfl⟩ : _ ∧ _ ∧ _ ∧ _ := ⟨congrArg (·.1) hf, congrArg (·.2.1) hf, congrArg (·.2.2.1) hf, congrArg (·.2.2.2) hf⟩
          clear hf
          conv => whnf
          repeat' (first
            | (first | ((with_reducible refine Br.tt ?_); conv => whnf) | ((with_reducible refine Br.ff ?_); conv => whnf) | ((with_reducible refine Br.dt ?_ ?_); (focus (first | assumption | omega)); conv => whnf) | ((with_reducible refine Br.df ?_ ?_); (focus (first | assumption | omega)); conv => whnf))
            | ((with_reducible refine Nd.mk ?_ ?_); (focus (first | omega | rfl | assumption | (simp; done))); conv => whnf)
            | (first | (refine LdN.at 0 rfl (by first | exact Nat.le_of_ble_eq_true rfl | (simp; done)) ?_; conv => whnf) | (refine LdN.at 5 rfl (by first | exact Nat.le_of_ble_eq_true rfl | (simp; done)) ?_; conv => whnf))
            | (refine St.at 5 rfl (by first | exact Nat.le_of_ble_eq_true rfl | (simp; done)) rfl ?_; conv => whnf)
            | (first | ((refine Cl.isAt 4 rfl (hB1 _) ?_); conv => whnf) | ((refine Cl.isAt 4 rfl (hB2 _) ?_); conv => whnf) | ((refine Cl.isAt 4 rfl (Tryz.rErr b s _ _) ?_); conv => whnf)))
          all_goals try (exfalso; omega)
          all_goals exact Exs.of (⟨F0, wa, wc, W, sa, sc, ([] : List Slt), ca, cc, ([] : List Cli)⟩ : Cfg) (by (try dsimp only); (refine FEnt.ent ?_; (repeat (first | exact FEnt.rfl | (refine FEnt.at 1 rfl ?_; (try simp only [List.eraseIdx_cons_zero, List.eraseIdx_cons_succ, List.eraseIdx_zero, List.tail_cons])) | refine FEnt.drop ?_)); done)) ⟨⟨rfl, rfl, rfl, rfl⟩, (And.intro w1 (And.intro w2 w3)).2, (And.intro (Nat.zero_le 255) (And.intro s2 s3)).2, (And.intro (Nat.zero_le 255) (And.intro x2 x3)).2⟩ rfl
      · skip
        have hno : ¬ (0 < n2 ∧ t2.1 = true) := fun h => hn h.1
        rw [fin2_no s _ _ _ hno] at hf
        clear hno
        obtain ⟨rfl, rfl, rfl, rfl⟩ : _ ∧ _ ∧ _ ∧ _ := ⟨congrArg (·.1) hf, congrArg (·.2.1) hf, congrArg (·.2.2.1) hf, congrArg (·.2.2.2) hf⟩
        clear hf
        conv => whnf
        repeat' (first
          | (first | ((with_reducible refine Br.ff ?_); conv => whnf) | ((with_reducible refine Br.df ?_ ?_); (focus (first | assumption | omega)); conv => whnf))
          | ((with_reducible refine Nd.mk ?_ ?_); (focus (first | omega | rfl | assumption | (simp; done))); conv => whnf)
          | (first | (refine LdN.at 0 rfl (by first | exact Nat.le_of_ble_eq_true rfl | (simp; done)) ?_; conv => whnf) | (refine LdN.at 5 rfl (by first | exact Nat.le_of_ble_eq_true rfl | (simp; done)) ?_; conv => whnf))
          | (refine St.at 5 rfl (by first | exact Nat.le_of_ble_eq_true rfl | (simp; done)) rfl ?_; conv => whnf)
          | (first | ((refine Cl.isAt 4 rfl (hB1 _) ?_); conv => whnf) | ((refine Cl.isAt 4 rfl (hB2 _) ?_); conv => whnf)))
        all_goals try (exfalso; omega)
        all_goals exact Exs.of (⟨F0, wa, wc, W, sa, sc, ([] : List Slt), ca, cc, ([] : List Cli)⟩ : Cfg) (by (try dsimp only); (refine FEnt.ent ?_; (repeat (first | exact FEnt.rfl | (refine FEnt.at 1 rfl ?_; (try simp only [List.eraseIdx_cons_zero, List.eraseIdx_cons_succ, List.eraseIdx_zero, List.tail_cons])) | refine FEnt.drop ?_)); done)) ⟨⟨rfl, rfl, rfl, rfl⟩, (And.intro w1 (And.intro w2 w3)).2, (And.intro (Nat.zero_le 255) (And.intro s2 s3)).2, (And.intro (Nat.zero_le 255) (And.intro x2 x3)).2⟩ rfl
set_option maxHeartbeats 40000000 in
theorem Tryz.tbL3 (b : Nat) (s : ByteArray) (t0 : Rst) (L : List HP) (ht0 : t0.2 ≤ s.size) (hs : s.size ≤ 1000000) : (Tryz.tbD b s t0 L ht0 hs).1.2.2.1 := by
  skip
  conv => whnf
  set_option tactic.hygienic false in intros
  by_cases hn : 0 < n0
  · by_cases ht : t1.1 = true
    · skip
      rw [fin1_go s _ _ hn ht] at hf
      have hE := rE_yes ht
      clear ht
      have q0 := fun L => Tryz.rByte b s t1 L (by repeat (first | assumption | apply nxt_le)) hs
      have q1 := fun L => Tryz.rTwo b s (nxt s 1 t1) L (by repeat (first | assumption | apply nxt_le)) hs
      have q2 := fun L => Tryz.rTwo b s (nxt s 2 (nxt s 1 t1)) L (by repeat (first | assumption | apply nxt_le)) hs
      have hle : (nxt s 2 (nxt s 2 (nxt s 1 t1))).2 ≤ s.size := by repeat (first | assumption | apply nxt_le)
      rw [show rowW s t1 = (bV s t1, wV s (nxt s 1 t1), wV s (nxt s 2 (nxt s 1 t1))) from rfl, show rowWn s t1 = (nxt s 2 (nxt s 2 (nxt s 1 t1))) from rfl] at hf
      generalize (nxt s 2 (nxt s 2 (nxt s 1 t1))) = u3 at *
      generalize wV s (nxt s 2 (nxt s 1 t1)) = v2 at *
      generalize (nxt s 2 (nxt s 1 t1)) = u2 at *
      generalize wV s (nxt s 1 t1) = v1 at *
      generalize (nxt s 1 t1) = u1 at *
      generalize bV s t1 = v0 at *
      conv => whnf
      repeat' (first
        | (first | ((with_reducible refine Br.tt ?_); conv => whnf) | ((with_reducible refine Br.dt ?_ ?_); (focus (first | assumption | omega)); conv => whnf))
        | ((with_reducible refine Ar.i64 ?_ ?_); (focus omega); conv => whnf)
        | ((with_reducible refine Nd.mk ?_ ?_); (focus (first | omega | rfl | assumption | (simp; done))); conv => whnf)
        | ((with_reducible refine Nc.go' (fun _ => ?_)); conv => whnf)
        | ((with_reducible refine Fk.mk ?_ ?_) <;> (conv => whnf))
        | (with_reducible exact True.intro)
        | (refine Ld.at 0 rfl rfl ?_; conv => whnf)
        | (refine St.at 2 rfl (by first | exact Nat.le_of_ble_eq_true rfl | (simp; done)) rfl ?_; conv => whnf)
        | ((with_reducible refine Dr.tree (id := 8) Tryz.tysOk rfl (.one 0 0 (.one 2 0 (.one 4 0 (.one 6 0 (.fork 1 1 (.one 3 3 (.one 5 3 (.one 7 3 (.one 8 0 (.one 9 2 (.one 10 3 (.one 11 0 (.one 12 3 .nil)))))))) (.fork 3 3 (.fork 1 1 (.one 5 3 (.one 7 3 (.one 8 0 (.one 9 2 (.one 10 3 (.one 11 0 (.one 12 3 .nil))))))) (.fork 5 3 (.fork 1 1 (.one 7 3 (.one 8 0 (.one 9 2 (.one 10 3 (.one 11 0 (.one 12 3 .nil)))))) (.fork 7 3 (.one 8 0 (.one 1 1 (.one 9 2 (.one 10 3 (.one 11 0 (.one 12 3 .nil)))))) .nil)) .nil)) .nil)))))) ?_ _ ?_ (fun _ _ h => h)); (focus kernel_rfl); conv => whnf)
        | (first | ((refine Cl.isAt 4 rfl (q0 _) ?_); conv => whnf) | ((refine Cl.isAt 4 rfl (q1 _) ?_); conv => whnf) | ((refine Cl.isAt 4 rfl (q2 _) ?_); conv => whnf) | ((refine Cl.isAt 4 rfl (Tryz.rErr b s _ _) ?_); conv => whnf))
        | ((with_reducible refine (?_ : Sm _ (Builtin.append_ _ _ _) _ _)); (((with_reducible apply (Sm.appAt (E := slE) (et := 44) Tryz.tysOk 3)); (focus rfl)); (rotate_left; (focus (exact Rd.ptc 0 rfl [(_, _, _)] rfl)); rotate_right; (focus rfl)); (focus rfl); (focus rfl); (focus rfl); (focus rfl); (focus rfl); (focus rfl); (focus ((simp only [List.length_append, List.length_cons, List.length_nil]); omega)); (intro _ _ _ _); conv => whnf)))
      all_goals try (exfalso; omega)
      all_goals (rename_i a5 c5 hc5 had5; exact Agn.mk ⟨(⟨n0 - 1, u3, b3, wa, wc, W, a5, c5, (S ++ [(v0, v1, v2)]), ca, cc, ([] : List Cli)⟩ : TbS), by kernel_rfl, by (try dsimp only); (refine FEnt.ent ?_; (repeat (first | exact FEnt.rfl | (refine FEnt.at 0 rfl ?_; (try simp only [List.eraseIdx_cons_zero, List.eraseIdx_cons_succ, List.eraseIdx_zero, List.tail_cons])) | (refine FEnt.at 1 rfl ?_; (try simp only [List.eraseIdx_cons_zero, List.eraseIdx_cons_succ, List.eraseIdx_zero, List.tail_cons])) | (refine FEnt.at 2 rfl ?_; (try simp only [List.eraseIdx_cons_zero, List.eraseIdx_cons_succ, List.eraseIdx_zero, List.tail_cons])) | refine FEnt.drop ?_)); done), ⟨⟨by dsimp only; omega, by dsimp only; omega⟩, hle, (And.intro w1 (And.intro w2 w3)), ⟨by dsimp only; rw [List.length_append]; simp only [List.length_cons, List.length_nil]; omega, hc5, had5⟩, (And.intro (Nat.zero_le 255) (And.intro x2 x3)), (.inr (.inl ⟨rfl, hf, by dsimp only; rw [List.length_append]; simp only [List.length_cons, List.length_nil]; omega, rfl⟩))⟩, by (try dsimp only); omega⟩)
    · skip
      have hE := rE_no ht
      have hBe := fun L => Tryz.rByteE b s t1 L htl0 hs ht
      have hno : ¬ (0 < n0 ∧ t1.1 = true) := fun h => ht h.2
      have hz : ∀ u : Rst, ¬ ((0 : Int) < 0 ∧ u.1 = true) := fun u h => absurd h.1 (by decide)
      rw [fin1_no s _ _ hno, bV_no ht, nxt_err ht, fin2_no s _ _ _ (hz _)] at hf
      clear hno hz ht
      obtain ⟨rfl, rfl, rfl, rfl⟩ : _ ∧ _ ∧ _ ∧ _ := ⟨congrArg (·.1) hf, congrArg (·.2.1) hf, congrArg (·.2.2.1) hf, congrArg (·.2.2.2) hf⟩
      clear hf
      conv => whnf
      repeat' (first
        | (first | ((with_reducible refine Br.tt ?_); conv => whnf) | ((with_reducible refine Br.ff ?_); conv => whnf) | ((with_reducible refine Br.dt ?_ ?_); (focus (first | assumption | omega)); conv => whnf) | ((with_reducible refine Br.df ?_ ?_); (focus (first | assumption | omega)); conv => whnf))
        | ((with_reducible refine Nd.mk ?_ ?_); (focus (first | omega | rfl | assumption | (simp; done))); conv => whnf)
        | (first | (refine LdN.at 0 rfl (by first | exact Nat.le_of_ble_eq_true rfl | (simp; done)) ?_; conv => whnf) | (refine LdN.at 5 rfl (by first | exact Nat.le_of_ble_eq_true rfl | (simp; done)) ?_; conv => whnf))
        | (refine St.at 5 rfl (by first | exact Nat.le_of_ble_eq_true rfl | (simp; done)) rfl ?_; conv => whnf)
        | (first | ((with_reducible refine (?_ : Cl _ 94 _ _ _ _)); (refine Cl.isAt 4 rfl (hBe _) ?_); conv => whnf) | ((refine Cl.isAt 4 rfl (Tryz.rErr b s _ _) ?_); conv => whnf)))
      all_goals try (exfalso; omega)
      all_goals exact Exs.of (⟨F0, wa, wc, W, sa, sc, S, ca, cc, ([] : List Cli)⟩ : Cfg) (by (try dsimp only); (refine FEnt.ent ?_; (repeat (first | exact FEnt.rfl | (refine FEnt.at 1 rfl ?_; (try simp only [List.eraseIdx_cons_zero, List.eraseIdx_cons_succ, List.eraseIdx_zero, List.tail_cons])) | refine FEnt.drop ?_)); done)) ⟨⟨rfl, rfl, rfl, rfl⟩, (And.intro w1 (And.intro w2 w3)).2, (And.intro s1 (And.intro s2 s3)).2, (And.intro (Nat.zero_le 255) (And.intro x2 x3)).2⟩ rfl
  · skip
    have hno : ¬ (0 < n0 ∧ t1.1 = true) := fun h => hn h.1
    rw [fin1_no s _ _ hno] at hf
    clear hno
    have hB1 := fun L => Tryz.rByte b s t1 L htl0 hs
    have hbd1 := bV_bd s t1
    have htl1 := nxt_le (n := 1) htl0
    generalize bV s t1 = n1 at *
    generalize nxt s 1 t1 = t1 at *
    by_cases hn : 0 < n1
    · by_cases ht : t1.1 = true
      · skip
        rw [fin2_go s _ _ _ hn ht] at hf
        have hE := rE_yes ht
        clear ht
        have q0 := fun L => Tryz.rTwo b s t1 L (by repeat (first | assumption | apply nxt_le)) hs
        have q1 := fun L => Tryz.rTwo b s (nxt s 2 t1) L (by repeat (first | assumption | apply nxt_le)) hs
        have q2 := fun L => Tryz.rByte b s (nxt s 2 (nxt s 2 t1)) L (by repeat (first | assumption | apply nxt_le)) hs
        have q3 := fun L => Tryz.rTwo b s (nxt s 1 (nxt s 2 (nxt s 2 t1))) L (by repeat (first | assumption | apply nxt_le)) hs
        have q4 := fun L => Tryz.rByte b s (nxt s 2 (nxt s 1 (nxt s 2 (nxt s 2 t1)))) L (by repeat (first | assumption | apply nxt_le)) hs
        have q5 := fun L => Tryz.rByte b s (nxt s 1 (nxt s 2 (nxt s 1 (nxt s 2 (nxt s 2 t1))))) L (by repeat (first | assumption | apply nxt_le)) hs
        have q6 := fun L => Tryz.rByte b s (nxt s 1 (nxt s 1 (nxt s 2 (nxt s 1 (nxt s 2 (nxt s 2 t1)))))) L (by repeat (first | assumption | apply nxt_le)) hs
        have q7 := fun L => Tryz.rByte b s (nxt s 1 (nxt s 1 (nxt s 1 (nxt s 2 (nxt s 1 (nxt s 2 (nxt s 2 t1))))))) L (by repeat (first | assumption | apply nxt_le)) hs
        have q8 := fun L => Tryz.rTwo b s (nxt s 1 (nxt s 1 (nxt s 1 (nxt s 1 (nxt s 2 (nxt s 1 (nxt s 2 (nxt s 2 t1)))))))) L (by repeat (first | assumption | apply nxt_le)) hs
        have q9 := fun L => Tryz.rByte b s (nxt s 2 (nxt s 1 (nxt s 1 (nxt s 1 (nxt s 1 (nxt s 2 (nxt s 1 (nxt s 2 (nxt s 2 t1))))))))) L (by repeat (first | assumption | apply nxt_le)) hs
        have hle : (nxt s 1 (nxt s 2 (nxt s 1 (nxt s 1 (nxt s 1 (nxt s 1 (nxt s 2 (nxt s 1 (nxt s 2 (nxt s 2 t1)))))))))).2 ≤ s.size := by repeat (first | assumption | apply nxt_le)
        rw [show rowC s t1 = (⟨wV s t1, wV s (nxt s 2 t1), bV s (nxt s 2 (nxt s 2 t1)), wV s (nxt s 1 (nxt s 2 (nxt s 2 t1))), bV s (nxt s 2 (nxt s 1 (nxt s 2 (nxt s 2 t1)))), bV s (nxt s 1 (nxt s 2 (nxt s 1 (nxt s 2 (nxt s 2 t1))))), bV s (nxt s 1 (nxt s 1 (nxt s 2 (nxt s 1 (nxt s 2 (nxt s 2 t1)))))), bV s (nxt s 1 (nxt s 1 (nxt s 1 (nxt s 2 (nxt s 1 (nxt s 2 (nxt s 2 t1))))))), wV s (nxt s 1 (nxt s 1 (nxt s 1 (nxt s 1 (nxt s 2 (nxt s 1 (nxt s 2 (nxt s 2 t1)))))))), bV s (nxt s 2 (nxt s 1 (nxt s 1 (nxt s 1 (nxt s 1 (nxt s 2 (nxt s 1 (nxt s 2 (nxt s 2 t1)))))))))⟩ : Cli) from rfl, show rowCn s t1 = (nxt s 1 (nxt s 2 (nxt s 1 (nxt s 1 (nxt s 1 (nxt s 1 (nxt s 2 (nxt s 1 (nxt s 2 (nxt s 2 t1)))))))))) from rfl] at hf
        generalize (nxt s 1 (nxt s 2 (nxt s 1 (nxt s 1 (nxt s 1 (nxt s 1 (nxt s 2 (nxt s 1 (nxt s 2 (nxt s 2 t1)))))))))) = u10 at *
        generalize bV s (nxt s 2 (nxt s 1 (nxt s 1 (nxt s 1 (nxt s 1 (nxt s 2 (nxt s 1 (nxt s 2 (nxt s 2 t1))))))))) = v9 at *
        generalize (nxt s 2 (nxt s 1 (nxt s 1 (nxt s 1 (nxt s 1 (nxt s 2 (nxt s 1 (nxt s 2 (nxt s 2 t1))))))))) = u9 at *
        generalize wV s (nxt s 1 (nxt s 1 (nxt s 1 (nxt s 1 (nxt s 2 (nxt s 1 (nxt s 2 (nxt s 2 t1)))))))) = v8 at *
        generalize (nxt s 1 (nxt s 1 (nxt s 1 (nxt s 1 (nxt s 2 (nxt s 1 (nxt s 2 (nxt s 2 t1)))))))) = u8 at *
        generalize bV s (nxt s 1 (nxt s 1 (nxt s 1 (nxt s 2 (nxt s 1 (nxt s 2 (nxt s 2 t1))))))) = v7 at *
        generalize (nxt s 1 (nxt s 1 (nxt s 1 (nxt s 2 (nxt s 1 (nxt s 2 (nxt s 2 t1))))))) = u7 at *
        generalize bV s (nxt s 1 (nxt s 1 (nxt s 2 (nxt s 1 (nxt s 2 (nxt s 2 t1)))))) = v6 at *
        generalize (nxt s 1 (nxt s 1 (nxt s 2 (nxt s 1 (nxt s 2 (nxt s 2 t1)))))) = u6 at *
        generalize bV s (nxt s 1 (nxt s 2 (nxt s 1 (nxt s 2 (nxt s 2 t1))))) = v5 at *
        generalize (nxt s 1 (nxt s 2 (nxt s 1 (nxt s 2 (nxt s 2 t1))))) = u5 at *
        generalize bV s (nxt s 2 (nxt s 1 (nxt s 2 (nxt s 2 t1)))) = v4 at *
        generalize (nxt s 2 (nxt s 1 (nxt s 2 (nxt s 2 t1)))) = u4 at *
        generalize wV s (nxt s 1 (nxt s 2 (nxt s 2 t1))) = v3 at *
        generalize (nxt s 1 (nxt s 2 (nxt s 2 t1))) = u3 at *
        generalize bV s (nxt s 2 (nxt s 2 t1)) = v2 at *
        generalize (nxt s 2 (nxt s 2 t1)) = u2 at *
        generalize wV s (nxt s 2 t1) = v1 at *
        generalize (nxt s 2 t1) = u1 at *
        generalize wV s t1 = v0 at *
        conv => whnf
        repeat' (first
          | (first | ((with_reducible refine Br.tt ?_); conv => whnf) | ((with_reducible refine Br.ff ?_); conv => whnf) | ((with_reducible refine Br.dt ?_ ?_); (focus (first | assumption | omega)); conv => whnf) | ((with_reducible refine Br.df ?_ ?_); (focus (first | assumption | omega)); conv => whnf))
          | ((with_reducible refine Ar.i64 ?_ ?_); (focus omega); conv => whnf)
          | ((with_reducible refine Nd.mk ?_ ?_); (focus (first | omega | rfl | assumption | (simp; done))); conv => whnf)
          | ((with_reducible refine Nc.go' (fun _ => ?_)); conv => whnf)
          | ((with_reducible refine Fk.mk ?_ ?_) <;> (conv => whnf))
          | (with_reducible exact True.intro)
          | (refine Ld.at 0 rfl rfl ?_; conv => whnf)
          | (refine St.at 2 rfl (by first | exact Nat.le_of_ble_eq_true rfl | (simp; done)) rfl ?_; conv => whnf)
          | ((with_reducible refine Dr.tree (id := 12) Tryz.tysOk rfl (.one 0 0 (.one 2 0 (.one 4 0 (.one 6 0 (.one 8 0 (.one 10 0 (.one 12 0 (.one 14 0 (.one 16 0 (.one 18 0 (.one 20 0 (.fork 1 1 (.one 3 3 (.one 5 3 (.one 7 3 (.one 9 3 (.one 11 3 (.one 13 3 (.one 15 3 (.one 17 3 (.one 19 3 (.one 21 3 (.one 22 0 (.one 23 2 (.one 24 3 (.one 25 0 (.one 26 3 .nil))))))))))))))) (.fork 3 3 (.fork 1 1 (.one 5 3 (.one 7 3 (.one 9 3 (.one 11 3 (.one 13 3 (.one 15 3 (.one 17 3 (.one 19 3 (.one 21 3 (.one 22 0 (.one 23 2 (.one 24 3 (.one 25 0 (.one 26 3 .nil)))))))))))))) (.fork 5 3 (.fork 1 1 (.one 7 3 (.one 9 3 (.one 11 3 (.one 13 3 (.one 15 3 (.one 17 3 (.one 19 3 (.one 21 3 (.one 22 0 (.one 23 2 (.one 24 3 (.one 25 0 (.one 26 3 .nil))))))))))))) (.fork 7 3 (.fork 1 1 (.one 9 3 (.one 11 3 (.one 13 3 (.one 15 3 (.one 17 3 (.one 19 3 (.one 21 3 (.one 22 0 (.one 23 2 (.one 24 3 (.one 25 0 (.one 26 3 .nil)))))))))))) (.fork 9 3 (.fork 1 1 (.one 11 3 (.one 13 3 (.one 15 3 (.one 17 3 (.one 19 3 (.one 21 3 (.one 22 0 (.one 23 2 (.one 24 3 (.one 25 0 (.one 26 3 .nil))))))))))) (.fork 11 3 (.fork 1 1 (.one 13 3 (.one 15 3 (.one 17 3 (.one 19 3 (.one 21 3 (.one 22 0 (.one 23 2 (.one 24 3 (.one 25 0 (.one 26 3 .nil)))))))))) (.fork 13 3 (.fork 1 1 (.one 15 3 (.one 17 3 (.one 19 3 (.one 21 3 (.one 22 0 (.one 23 2 (.one 24 3 (.one 25 0 (.one 26 3 .nil))))))))) (.fork 15 3 (.fork 1 1 (.one 17 3 (.one 19 3 (.one 21 3 (.one 22 0 (.one 23 2 (.one 24 3 (.one 25 0 (.one 26 3 .nil)))))))) (.fork 17 3 (.fork 1 1 (.one 19 3 (.one 21 3 (.one 22 0 (.one 23 2 (.one 24 3 (.one 25 0 (.one 26 3 .nil))))))) (.fork 19 3 (.fork 1 1 (.one 21 3 (.one 22 0 (.one 23 2 (.one 24 3 (.one 25 0 (.one 26 3 .nil)))))) (.fork 21 3 (.one 22 0 (.one 1 1 (.one 23 2 (.one 24 3 (.one 25 0 (.one 26 3 .nil)))))) .nil)) .nil)) .nil)) .nil)) .nil)) .nil)) .nil)) .nil)) .nil)) .nil))))))))))))) ?_ _ ?_ (fun _ _ h => h)); (focus kernel_rfl); conv => whnf)
          | (first | ((refine Cl.isAt 4 rfl (hB1 _) ?_); conv => whnf) | ((refine Cl.isAt 4 rfl (q0 _) ?_); conv => whnf) | ((refine Cl.isAt 4 rfl (q1 _) ?_); conv => whnf) | ((refine Cl.isAt 4 rfl (q2 _) ?_); conv => whnf) | ((refine Cl.isAt 4 rfl (q3 _) ?_); conv => whnf) | ((refine Cl.isAt 4 rfl (q4 _) ?_); conv => whnf) | ((refine Cl.isAt 4 rfl (q5 _) ?_); conv => whnf) | ((refine Cl.isAt 4 rfl (q6 _) ?_); conv => whnf) | ((refine Cl.isAt 4 rfl (q7 _) ?_); conv => whnf) | ((refine Cl.isAt 4 rfl (q8 _) ?_); conv => whnf) | ((refine Cl.isAt 4 rfl (q9 _) ?_); conv => whnf) | ((refine Cl.isAt 4 rfl (Tryz.rErr b s _ _) ?_); conv => whnf))
          | ((with_reducible refine (?_ : Sm _ (Builtin.append_ _ _ _) _ _)); (((with_reducible apply (Sm.appAt (E := clE) (et := 46) Tryz.tysOk 4)); (focus rfl)); (rotate_left; (focus (exact Rd.ptc 0 rfl [⟨_, _, _, _, _, _, _, _, _, _⟩] rfl)); rotate_right; (focus rfl)); (focus rfl); (focus rfl); (focus rfl); (focus rfl); (focus rfl); (focus rfl); (focus ((simp only [List.length_append, List.length_cons, List.length_nil]); omega)); (intro _ _ _ _); conv => whnf)))
        all_goals try (exfalso; omega)
        all_goals (rename_i a5 c5 hc5 had5; exact Agn.mk ⟨(⟨n1 - 1, u10, b3, wa, wc, W, sa, sc, S, a5, c5, (([] : List Cli) ++ [⟨v0, v1, v2, v3, v4, v5, v6, v7, v8, v9⟩])⟩ : TbS), by kernel_rfl, by (try dsimp only); (refine FEnt.ent ?_; (repeat (first | exact FEnt.rfl | (refine FEnt.at 0 rfl ?_; (try simp only [List.eraseIdx_cons_zero, List.eraseIdx_cons_succ, List.eraseIdx_zero, List.tail_cons])) | (refine FEnt.at 1 rfl ?_; (try simp only [List.eraseIdx_cons_zero, List.eraseIdx_cons_succ, List.eraseIdx_zero, List.tail_cons])) | (refine FEnt.at 2 rfl ?_; (try simp only [List.eraseIdx_cons_zero, List.eraseIdx_cons_succ, List.eraseIdx_zero, List.tail_cons])) | refine FEnt.drop ?_)); done), ⟨⟨by dsimp only; omega, by dsimp only; omega⟩, hle, (And.intro w1 (And.intro w2 w3)), (And.intro s1 (And.intro s2 s3)), ⟨by dsimp only; rw [List.length_append]; simp only [List.length_cons, List.length_nil]; omega, hc5, had5⟩, (.inr (.inr ⟨rfl, hf, by dsimp only; rw [List.length_append]; simp only [List.length_cons, List.length_nil]; omega⟩))⟩, by (try dsimp only); omega⟩)
      · skip
        have hE := rE_no ht
        have hBe := fun L => Tryz.rByteE b s t1 L htl1 hs ht
        have hno : ¬ (0 < n1 ∧ t1.1 = true) := fun h => ht h.2
        have hz : ∀ u : Rst, ¬ ((0 : Int) < 0 ∧ u.1 = true) := fun u h => absurd h.1 (by decide)
        rw [fin2_no s _ _ _ hno] at hf
        clear hno hz ht
        obtain ⟨rfl, rfl, rfl, rfl⟩ : _ ∧ _ ∧ _ ∧ _ := ⟨congrArg (·.1) hf, congrArg (·.2.1) hf, congrArg (·.2.2.1) hf, congrArg (·.2.2.2) hf⟩
        clear hf
        conv => whnf
        repeat' (first
          | (first | ((with_reducible refine Br.tt ?_); conv => whnf) | ((with_reducible refine Br.ff ?_); conv => whnf) | ((with_reducible refine Br.dt ?_ ?_); (focus (first | assumption | omega)); conv => whnf) | ((with_reducible refine Br.df ?_ ?_); (focus (first | assumption | omega)); conv => whnf))
          | ((with_reducible refine Nd.mk ?_ ?_); (focus (first | omega | rfl | assumption | (simp; done))); conv => whnf)
          | (first | (refine LdN.at 0 rfl (by first | exact Nat.le_of_ble_eq_true rfl | (simp; done)) ?_; conv => whnf) | (refine LdN.at 5 rfl (by first | exact Nat.le_of_ble_eq_true rfl | (simp; done)) ?_; conv => whnf))
          | (refine St.at 5 rfl (by first | exact Nat.le_of_ble_eq_true rfl | (simp; done)) rfl ?_; conv => whnf)
          | (first | ((refine Cl.isAt 4 rfl (hB1 _) ?_); conv => whnf) | ((refine Cl.isAt 4 rfl (Tryz.rErr b s _ _) ?_); conv => whnf)))
        all_goals try (exfalso; omega)
        all_goals exact Exs.of (⟨F0, wa, wc, W, sa, sc, S, ca, cc, ([] : List Cli)⟩ : Cfg) (by (try dsimp only); (refine FEnt.ent ?_; (repeat (first | exact FEnt.rfl | (refine FEnt.at 1 rfl ?_; (try simp only [List.eraseIdx_cons_zero, List.eraseIdx_cons_succ, List.eraseIdx_zero, List.tail_cons])) | refine FEnt.drop ?_)); done)) ⟨⟨rfl, rfl, rfl, rfl⟩, (And.intro w1 (And.intro w2 w3)).2, (And.intro s1 (And.intro s2 s3)).2, (And.intro (Nat.zero_le 255) (And.intro x2 x3)).2⟩ rfl
    · skip
      have hno : ¬ (0 < n1 ∧ t1.1 = true) := fun h => hn h.1
      rw [fin2_no s _ _ _ hno] at hf
      clear hno
      obtain ⟨rfl, rfl, rfl, rfl⟩ : _ ∧ _ ∧ _ ∧ _ := ⟨congrArg (·.1) hf, congrArg (·.2.1) hf, congrArg (·.2.2.1) hf, congrArg (·.2.2.2) hf⟩
      clear hf
      conv => whnf
      repeat' (first
        | (first | ((with_reducible refine Br.ff ?_); conv => whnf) | ((with_reducible refine Br.df ?_ ?_); (focus (first | assumption | omega)); conv => whnf))
        | ((with_reducible refine Nd.mk ?_ ?_); (focus (first | omega | rfl | assumption | (simp; done))); conv => whnf)
        | (first | (refine LdN.at 0 rfl (by first | exact Nat.le_of_ble_eq_true rfl | (simp; done)) ?_; conv => whnf) | (refine LdN.at 5 rfl (by first | exact Nat.le_of_ble_eq_true rfl | (simp; done)) ?_; conv => whnf))
        | (refine St.at 5 rfl (by first | exact Nat.le_of_ble_eq_true rfl | (simp; done)) rfl ?_; conv => whnf)
        | ((refine Cl.isAt 4 rfl (hB1 _) ?_); conv => whnf))
      all_goals try (exfalso; omega)
      all_goals exact Exs.of (⟨F0, wa, wc, W, sa, sc, S, ca, cc, ([] : List Cli)⟩ : Cfg) (by (try dsimp only); (refine FEnt.ent ?_; (repeat (first | exact FEnt.rfl | (refine FEnt.at 1 rfl ?_; (try simp only [List.eraseIdx_cons_zero, List.eraseIdx_cons_succ, List.eraseIdx_zero, List.tail_cons])) | refine FEnt.drop ?_)); done)) ⟨⟨rfl, rfl, rfl, rfl⟩, (And.intro w1 (And.intro w2 w3)).2, (And.intro s1 (And.intro s2 s3)).2, (And.intro (Nat.zero_le 255) (And.intro x2 x3)).2⟩ rfl
set_option maxHeartbeats 40000000 in
theorem Tryz.tbL4 (b : Nat) (s : ByteArray) (t0 : Rst) (L : List HP) (ht0 : t0.2 ≤ s.size) (hs : s.size ≤ 1000000) : (Tryz.tbD b s t0 L ht0 hs).1.2.2.2 := by
  skip
  conv => whnf
  set_option tactic.hygienic false in intros
  by_cases hn : 0 < n0
  · by_cases ht : t1.1 = true
    · skip
      rw [fin2_go s _ _ _ hn ht] at hf
      have hE := rE_yes ht
      clear ht
      have q0 := fun L => Tryz.rTwo b s t1 L (by repeat (first | assumption | apply nxt_le)) hs
      have q1 := fun L => Tryz.rTwo b s (nxt s 2 t1) L (by repeat (first | assumption | apply nxt_le)) hs
      have q2 := fun L => Tryz.rByte b s (nxt s 2 (nxt s 2 t1)) L (by repeat (first | assumption | apply nxt_le)) hs
      have q3 := fun L => Tryz.rTwo b s (nxt s 1 (nxt s 2 (nxt s 2 t1))) L (by repeat (first | assumption | apply nxt_le)) hs
      have q4 := fun L => Tryz.rByte b s (nxt s 2 (nxt s 1 (nxt s 2 (nxt s 2 t1)))) L (by repeat (first | assumption | apply nxt_le)) hs
      have q5 := fun L => Tryz.rByte b s (nxt s 1 (nxt s 2 (nxt s 1 (nxt s 2 (nxt s 2 t1))))) L (by repeat (first | assumption | apply nxt_le)) hs
      have q6 := fun L => Tryz.rByte b s (nxt s 1 (nxt s 1 (nxt s 2 (nxt s 1 (nxt s 2 (nxt s 2 t1)))))) L (by repeat (first | assumption | apply nxt_le)) hs
      have q7 := fun L => Tryz.rByte b s (nxt s 1 (nxt s 1 (nxt s 1 (nxt s 2 (nxt s 1 (nxt s 2 (nxt s 2 t1))))))) L (by repeat (first | assumption | apply nxt_le)) hs
      have q8 := fun L => Tryz.rTwo b s (nxt s 1 (nxt s 1 (nxt s 1 (nxt s 1 (nxt s 2 (nxt s 1 (nxt s 2 (nxt s 2 t1)))))))) L (by repeat (first | assumption | apply nxt_le)) hs
      have q9 := fun L => Tryz.rByte b s (nxt s 2 (nxt s 1 (nxt s 1 (nxt s 1 (nxt s 1 (nxt s 2 (nxt s 1 (nxt s 2 (nxt s 2 t1))))))))) L (by repeat (first | assumption | apply nxt_le)) hs
      have hle : (nxt s 1 (nxt s 2 (nxt s 1 (nxt s 1 (nxt s 1 (nxt s 1 (nxt s 2 (nxt s 1 (nxt s 2 (nxt s 2 t1)))))))))).2 ≤ s.size := by repeat (first | assumption | apply nxt_le)
      rw [show rowC s t1 = (⟨wV s t1, wV s (nxt s 2 t1), bV s (nxt s 2 (nxt s 2 t1)), wV s (nxt s 1 (nxt s 2 (nxt s 2 t1))), bV s (nxt s 2 (nxt s 1 (nxt s 2 (nxt s 2 t1)))), bV s (nxt s 1 (nxt s 2 (nxt s 1 (nxt s 2 (nxt s 2 t1))))), bV s (nxt s 1 (nxt s 1 (nxt s 2 (nxt s 1 (nxt s 2 (nxt s 2 t1)))))), bV s (nxt s 1 (nxt s 1 (nxt s 1 (nxt s 2 (nxt s 1 (nxt s 2 (nxt s 2 t1))))))), wV s (nxt s 1 (nxt s 1 (nxt s 1 (nxt s 1 (nxt s 2 (nxt s 1 (nxt s 2 (nxt s 2 t1)))))))), bV s (nxt s 2 (nxt s 1 (nxt s 1 (nxt s 1 (nxt s 1 (nxt s 2 (nxt s 1 (nxt s 2 (nxt s 2 t1)))))))))⟩ : Cli) from rfl, show rowCn s t1 = (nxt s 1 (nxt s 2 (nxt s 1 (nxt s 1 (nxt s 1 (nxt s 1 (nxt s 2 (nxt s 1 (nxt s 2 (nxt s 2 t1)))))))))) from rfl] at hf
      generalize (nxt s 1 (nxt s 2 (nxt s 1 (nxt s 1 (nxt s 1 (nxt s 1 (nxt s 2 (nxt s 1 (nxt s 2 (nxt s 2 t1)))))))))) = u10 at *
      generalize bV s (nxt s 2 (nxt s 1 (nxt s 1 (nxt s 1 (nxt s 1 (nxt s 2 (nxt s 1 (nxt s 2 (nxt s 2 t1))))))))) = v9 at *
      generalize (nxt s 2 (nxt s 1 (nxt s 1 (nxt s 1 (nxt s 1 (nxt s 2 (nxt s 1 (nxt s 2 (nxt s 2 t1))))))))) = u9 at *
      generalize wV s (nxt s 1 (nxt s 1 (nxt s 1 (nxt s 1 (nxt s 2 (nxt s 1 (nxt s 2 (nxt s 2 t1)))))))) = v8 at *
      generalize (nxt s 1 (nxt s 1 (nxt s 1 (nxt s 1 (nxt s 2 (nxt s 1 (nxt s 2 (nxt s 2 t1)))))))) = u8 at *
      generalize bV s (nxt s 1 (nxt s 1 (nxt s 1 (nxt s 2 (nxt s 1 (nxt s 2 (nxt s 2 t1))))))) = v7 at *
      generalize (nxt s 1 (nxt s 1 (nxt s 1 (nxt s 2 (nxt s 1 (nxt s 2 (nxt s 2 t1))))))) = u7 at *
      generalize bV s (nxt s 1 (nxt s 1 (nxt s 2 (nxt s 1 (nxt s 2 (nxt s 2 t1)))))) = v6 at *
      generalize (nxt s 1 (nxt s 1 (nxt s 2 (nxt s 1 (nxt s 2 (nxt s 2 t1)))))) = u6 at *
      generalize bV s (nxt s 1 (nxt s 2 (nxt s 1 (nxt s 2 (nxt s 2 t1))))) = v5 at *
      generalize (nxt s 1 (nxt s 2 (nxt s 1 (nxt s 2 (nxt s 2 t1))))) = u5 at *
      generalize bV s (nxt s 2 (nxt s 1 (nxt s 2 (nxt s 2 t1)))) = v4 at *
      generalize (nxt s 2 (nxt s 1 (nxt s 2 (nxt s 2 t1)))) = u4 at *
      generalize wV s (nxt s 1 (nxt s 2 (nxt s 2 t1))) = v3 at *
      generalize (nxt s 1 (nxt s 2 (nxt s 2 t1))) = u3 at *
      generalize bV s (nxt s 2 (nxt s 2 t1)) = v2 at *
      generalize (nxt s 2 (nxt s 2 t1)) = u2 at *
      generalize wV s (nxt s 2 t1) = v1 at *
      generalize (nxt s 2 t1) = u1 at *
      generalize wV s t1 = v0 at *
      conv => whnf
      repeat' (first
        | (first | ((with_reducible refine Br.tt ?_); conv => whnf) | ((with_reducible refine Br.dt ?_ ?_); (focus (first | assumption | omega)); conv => whnf))
        | ((with_reducible refine Ar.i64 ?_ ?_); (focus omega); conv => whnf)
        | ((with_reducible refine Nd.mk ?_ ?_); (focus (first | omega | rfl | assumption | (simp; done))); conv => whnf)
        | ((with_reducible refine Nc.go' (fun _ => ?_)); conv => whnf)
        | ((with_reducible refine Fk.mk ?_ ?_) <;> (conv => whnf))
        | (with_reducible exact True.intro)
        | (refine Ld.at 0 rfl rfl ?_; conv => whnf)
        | (refine St.at 2 rfl (by first | exact Nat.le_of_ble_eq_true rfl | (simp; done)) rfl ?_; conv => whnf)
        | ((with_reducible refine Dr.tree (id := 12) Tryz.tysOk rfl (.one 0 0 (.one 2 0 (.one 4 0 (.one 6 0 (.one 8 0 (.one 10 0 (.one 12 0 (.one 14 0 (.one 16 0 (.one 18 0 (.one 20 0 (.fork 1 1 (.one 3 3 (.one 5 3 (.one 7 3 (.one 9 3 (.one 11 3 (.one 13 3 (.one 15 3 (.one 17 3 (.one 19 3 (.one 21 3 (.one 22 0 (.one 23 2 (.one 24 3 (.one 25 0 (.one 26 3 .nil))))))))))))))) (.fork 3 3 (.fork 1 1 (.one 5 3 (.one 7 3 (.one 9 3 (.one 11 3 (.one 13 3 (.one 15 3 (.one 17 3 (.one 19 3 (.one 21 3 (.one 22 0 (.one 23 2 (.one 24 3 (.one 25 0 (.one 26 3 .nil)))))))))))))) (.fork 5 3 (.fork 1 1 (.one 7 3 (.one 9 3 (.one 11 3 (.one 13 3 (.one 15 3 (.one 17 3 (.one 19 3 (.one 21 3 (.one 22 0 (.one 23 2 (.one 24 3 (.one 25 0 (.one 26 3 .nil))))))))))))) (.fork 7 3 (.fork 1 1 (.one 9 3 (.one 11 3 (.one 13 3 (.one 15 3 (.one 17 3 (.one 19 3 (.one 21 3 (.one 22 0 (.one 23 2 (.one 24 3 (.one 25 0 (.one 26 3 .nil)))))))))))) (.fork 9 3 (.fork 1 1 (.one 11 3 (.one 13 3 (.one 15 3 (.one 17 3 (.one 19 3 (.one 21 3 (.one 22 0 (.one 23 2 (.one 24 3 (.one 25 0 (.one 26 3 .nil))))))))))) (.fork 11 3 (.fork 1 1 (.one 13 3 (.one 15 3 (.one 17 3 (.one 19 3 (.one 21 3 (.one 22 0 (.one 23 2 (.one 24 3 (.one 25 0 (.one 26 3 .nil)))))))))) (.fork 13 3 (.fork 1 1 (.one 15 3 (.one 17 3 (.one 19 3 (.one 21 3 (.one 22 0 (.one 23 2 (.one 24 3 (.one 25 0 (.one 26 3 .nil))))))))) (.fork 15 3 (.fork 1 1 (.one 17 3 (.one 19 3 (.one 21 3 (.one 22 0 (.one 23 2 (.one 24 3 (.one 25 0 (.one 26 3 .nil)))))))) (.fork 17 3 (.fork 1 1 (.one 19 3 (.one 21 3 (.one 22 0 (.one 23 2 (.one 24 3 (.one 25 0 (.one 26 3 .nil))))))) (.fork 19 3 (.fork 1 1 (.one 21 3 (.one 22 0 (.one 23 2 (.one 24 3 (.one 25 0 (.one 26 3 .nil)))))) (.fork 21 3 (.one 22 0 (.one 1 1 (.one 23 2 (.one 24 3 (.one 25 0 (.one 26 3 .nil)))))) .nil)) .nil)) .nil)) .nil)) .nil)) .nil)) .nil)) .nil)) .nil)) .nil))))))))))))) ?_ _ ?_ (fun _ _ h => h)); (focus kernel_rfl); conv => whnf)
        | (first | ((refine Cl.isAt 4 rfl (q0 _) ?_); conv => whnf) | ((refine Cl.isAt 4 rfl (q1 _) ?_); conv => whnf) | ((refine Cl.isAt 4 rfl (q2 _) ?_); conv => whnf) | ((refine Cl.isAt 4 rfl (q3 _) ?_); conv => whnf) | ((refine Cl.isAt 4 rfl (q4 _) ?_); conv => whnf) | ((refine Cl.isAt 4 rfl (q5 _) ?_); conv => whnf) | ((refine Cl.isAt 4 rfl (q6 _) ?_); conv => whnf) | ((refine Cl.isAt 4 rfl (q7 _) ?_); conv => whnf) | ((refine Cl.isAt 4 rfl (q8 _) ?_); conv => whnf) | ((refine Cl.isAt 4 rfl (q9 _) ?_); conv => whnf) | ((refine Cl.isAt 4 rfl (Tryz.rErr b s _ _) ?_); conv => whnf))
        | ((with_reducible refine (?_ : Sm _ (Builtin.append_ _ _ _) _ _)); (((with_reducible apply (Sm.appAt (E := clE) (et := 46) Tryz.tysOk 4)); (focus rfl)); (rotate_left; (focus (exact Rd.ptc 0 rfl [⟨_, _, _, _, _, _, _, _, _, _⟩] rfl)); rotate_right; (focus rfl)); (focus rfl); (focus rfl); (focus rfl); (focus rfl); (focus rfl); (focus rfl); (focus ((simp only [List.length_append, List.length_cons, List.length_nil]); omega)); (intro _ _ _ _); conv => whnf)))
      all_goals try (exfalso; omega)
      all_goals (rename_i a5 c5 hc5 had5; exact Agn.mk ⟨(⟨n0 - 1, u10, b3, wa, wc, W, sa, sc, S, a5, c5, (X ++ [⟨v0, v1, v2, v3, v4, v5, v6, v7, v8, v9⟩])⟩ : TbS), by kernel_rfl, by (try dsimp only); (refine FEnt.ent ?_; (repeat (first | exact FEnt.rfl | (refine FEnt.at 0 rfl ?_; (try simp only [List.eraseIdx_cons_zero, List.eraseIdx_cons_succ, List.eraseIdx_zero, List.tail_cons])) | (refine FEnt.at 1 rfl ?_; (try simp only [List.eraseIdx_cons_zero, List.eraseIdx_cons_succ, List.eraseIdx_zero, List.tail_cons])) | (refine FEnt.at 2 rfl ?_; (try simp only [List.eraseIdx_cons_zero, List.eraseIdx_cons_succ, List.eraseIdx_zero, List.tail_cons])) | refine FEnt.drop ?_)); done), ⟨⟨by dsimp only; omega, by dsimp only; omega⟩, hle, (And.intro w1 (And.intro w2 w3)), (And.intro s1 (And.intro s2 s3)), ⟨by dsimp only; rw [List.length_append]; simp only [List.length_cons, List.length_nil]; omega, hc5, had5⟩, (.inr (.inr ⟨rfl, hf, by dsimp only; rw [List.length_append]; simp only [List.length_cons, List.length_nil]; omega⟩))⟩, by (try dsimp only); omega⟩)
    · skip
      have hE := rE_no ht
      have hBe := fun L => Tryz.rByteE b s t1 L htl0 hs ht
      have hno : ¬ (0 < n0 ∧ t1.1 = true) := fun h => ht h.2
      have hz : ∀ u : Rst, ¬ ((0 : Int) < 0 ∧ u.1 = true) := fun u h => absurd h.1 (by decide)
      rw [fin2_no s _ _ _ hno] at hf
      clear hno hz ht
      obtain ⟨rfl, rfl, rfl, rfl⟩ : _ ∧ _ ∧ _ ∧ _ := ⟨congrArg (·.1) hf, congrArg (·.2.1) hf, congrArg (·.2.2.1) hf, congrArg (·.2.2.2) hf⟩
      clear hf
      conv => whnf
      repeat' (first
        | (first | ((with_reducible refine Br.tt ?_); conv => whnf) | ((with_reducible refine Br.dt ?_ ?_); (focus (first | assumption | omega)); conv => whnf) | ((with_reducible refine Br.df ?_ ?_); (focus (first | assumption | omega)); conv => whnf))
        | ((with_reducible refine Nd.mk ?_ ?_); (focus (first | omega | rfl | assumption | (simp; done))); conv => whnf)
        | (first | (refine LdN.at 0 rfl (by first | exact Nat.le_of_ble_eq_true rfl | (simp; done)) ?_; conv => whnf) | (refine LdN.at 5 rfl (by first | exact Nat.le_of_ble_eq_true rfl | (simp; done)) ?_; conv => whnf))
        | (refine St.at 5 rfl (by first | exact Nat.le_of_ble_eq_true rfl | (simp; done)) rfl ?_; conv => whnf)
        | ((refine Cl.isAt 4 rfl (Tryz.rErr b s _ _) ?_); conv => whnf))
      all_goals try (exfalso; omega)
      all_goals exact Exs.of (⟨F0, wa, wc, W, sa, sc, S, ca, cc, X⟩ : Cfg) (by (try dsimp only); (refine FEnt.ent ?_; (repeat (first | exact FEnt.rfl | (refine FEnt.at 1 rfl ?_; (try simp only [List.eraseIdx_cons_zero, List.eraseIdx_cons_succ, List.eraseIdx_zero, List.tail_cons])) | refine FEnt.drop ?_)); done)) ⟨⟨rfl, rfl, rfl, rfl⟩, (And.intro w1 (And.intro w2 w3)).2, (And.intro s1 (And.intro s2 s3)).2, (And.intro x1 (And.intro x2 x3)).2⟩ rfl
  · skip
    have hno : ¬ (0 < n0 ∧ t1.1 = true) := fun h => hn h.1
    rw [fin2_no s _ _ _ hno] at hf
    clear hno
    obtain ⟨rfl, rfl, rfl, rfl⟩ : _ ∧ _ ∧ _ ∧ _ := ⟨congrArg (·.1) hf, congrArg (·.2.1) hf, congrArg (·.2.2.1) hf, congrArg (·.2.2.2) hf⟩
    clear hf
    conv => whnf
    repeat' (first
      | (first | ((with_reducible refine Br.ff ?_); conv => whnf) | ((with_reducible refine Br.df ?_ ?_); (focus (first | assumption | omega)); conv => whnf))
      | ((with_reducible refine Nd.mk ?_ ?_); (focus (first | omega | rfl | assumption | (simp; done))); conv => whnf)
      | (first | (refine LdN.at 0 rfl (by first | exact Nat.le_of_ble_eq_true rfl | (simp; done)) ?_; conv => whnf) | (refine LdN.at 5 rfl (by first | exact Nat.le_of_ble_eq_true rfl | (simp; done)) ?_; conv => whnf))
      | (refine St.at 5 rfl (by first | exact Nat.le_of_ble_eq_true rfl | (simp; done)) rfl ?_; conv => whnf))
    all_goals try (exfalso; omega)
    all_goals exact Exs.of (⟨F0, wa, wc, W, sa, sc, S, ca, cc, X⟩ : Cfg) (by (try dsimp only); (refine FEnt.ent ?_; (repeat (first | exact FEnt.rfl | (refine FEnt.at 1 rfl ?_; (try simp only [List.eraseIdx_cons_zero, List.eraseIdx_cons_succ, List.eraseIdx_zero, List.tail_cons])) | refine FEnt.drop ?_)); done)) ⟨⟨rfl, rfl, rfl, rfl⟩, (And.intro w1 (And.intro w2 w3)).2, (And.intro s1 (And.intro s2 s3)).2, (And.intro x1 (And.intro x2 x3)).2⟩ rfl
theorem Tryz.imgTables (b : Nat) (s : ByteArray) (t0 : Rst) (L : List HP) (ht0 : t0.2 ≤ s.size) (hs : s.size ≤ 1000000) : Con Tryz.prog 52 [.pointer (some ⟨b, 0, none⟩)] (ptc b 205 (rdT s t0) :: L) (Tryz.TbP b s t0 L) :=
  (Tryz.tbD b s t0 L ht0 hs).2 (Tryz.tbL1 b s t0 L ht0 hs) (Tryz.tbL2 b s t0 L ht0 hs) (Tryz.tbL3 b s t0 L ht0 hs) (Tryz.tbL4 b s t0 L ht0 hs)
end Go.Proofs
