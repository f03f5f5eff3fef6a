/- A client's requests, of which there are none: contracts. -/
import Derived.Test.YtdjpcfaidgofoaaGreatTopS
import Derived.Test.YtdjpcfaidgofoaaGreatPartC
set_option linter.all false
namespace Go.Proofs
open Go.Eng
open Classical
set_option linter.unusedVariables false
set_option maxRecDepth 100000
set_option maxHeartbeats 8000000
/-- a memory as it is laid -/
def mem0 : List UInt8 := zeros 16384
def nilP : Nat → Value := fun _ => .pointer none
def nilS : Nat → Value := fun _ => .slice none 0 0
def updP (P : Nat → Value) (n : Nat) (v : Value) : Nat → Value := fun i => if i = n then v else P i
/-- a machine's cells -/
abbrev mchC (m d s l p : Value) (t : Int) (P T : Nat → Value) : List Value := [m, d, s, l, p, n64 t, P 0, P 1, P 2, P 3, P 4, P 5, P 6, P 7, P 8, T 0, T 1, T 2, T 3, T 4, T 5, T 6, T 7, T 8]
theorem mchC_set (m d s l p v : Value) (t : Int) (P T : Nat → Value) {n : Nat} (h : n < 9) : ovr (mchC m d s l p t P T) (6 + n * 1) [v] = mchC m d s l p t (updP P n v) T := by
  match n, h with
  | 0, _ => rfl | 1, _ => rfl | 2, _ => rfl | 3, _ => rfl | 4, _ => rfl | 5, _ => rfl | 6, _ => rfl | 7, _ => rfl | 8, _ => rfl
theorem St.prt {Q : Program} {L : List HP} {b : Nat} {ty : TypeId} {m d s l p : Value} {v : Option Addr} {t n : Int} {P T : Nat → Value} {K : List HP → Prop} (i : Nat) (hi : L[i]? = some (ptc b ty (mchC m d s l p t P T))) (hb : 0 ≤ n ∧ n ≤ 8)
    (k : lsetK L i (ptc b ty (mchC m d s l p t (updP P n.toNat (.pointer v)) T)) K) : St Q L ⟨b, 6 + n.toNat * 1, none⟩ [.pointer v] K := by
  refine St.at i hi ?_ rfl ?_
  · show 6 + n.toNat * 1 + 1 ≤ 24
    omega
  · rw [mchC_set m d s l p (.pointer v) t P T (by omega)]
    exact k
/-- a client's partition: its block, its memory's first place and size, its owner -/
abbrev Pt := Nat × Int × Int × Int
def ptD : Pt := (0, 0, 0, 0)
def Tryz.parH (bm : Nat) (y : Pt) : HP := ptc y.1 183 (parC bm y.2.1 y.2.2.1 y.2.2.2 ⟨[], 0, fun _ => 0, 0⟩)
theorem Tryz.parNew0 (bm : Nat) (base size owner : Int) (L : List HP) (hb : 0 ≤ base) (hs : 0 ≤ size) (hx : base + size ≤ 16384) (ho : 1 ≤ owner ∧ owner ≤ 8) :
    Con Tryz.prog 27 [i64W owner, viewV bm base size, .string ⟨#[]⟩] (Tryz.memH bm mem0 :: L) (Exs (fun n : Nat => .tuple #[pV n, i64W 0]) (fun n => Tryz.parH bm (n, base, size, owner) :: Tryz.memH bm mem0 :: L) (fun _ => True)) := by
  have e : mem0 = zeros base.toNat ++ zeros size.toNat ++ zeros (16384 - base.toNat - size.toNat) := by
    unfold mem0 zeros
    rw [List.replicate_append_replicate, List.replicate_append_replicate]
    congr 1
    omega
  have h := Tryz.parNew bm (zeros base.toNat) (zeros size.toNat) (zeros (16384 - base.toNat - size.toNat)) base size owner ⟨#[]⟩ L (by rw [List.length_replicate]; omega) (by rw [List.length_replicate]; omega) (by rw [← e]; unfold mem0; rw [List.length_replicate]; exact Nat.le_refl _) ho (Nat.zero_le _)
  rw [show lay (zeros size.toNat) 0 (ByteArray.data ⟨#[]⟩).toList = zeros size.toNat from lay_nil, ← e] at h
  exact h
/-- a machine: its tables; its block, the memory's, the server's, the board's, the plan's, the account's; its devices; desks; queues; partitions -/
structure Mz where
  C : Cfg
  b : Nat
  bm : Nat
  bs : Nat
  bl : Nat
  bp : Nat
  ba : Nat
  D : Dv
  ds : List Dsk
  qs : List Qu
  P : Nat → Value
  ps : List Pt
structure MzOk (s : ByteArray) (z : Mz) : Prop where
  tb : TbIs s z.C
  r : Right z.C
  dv : dvOk z.C z.D
  dk : dsOk z.C z.C.xs.length z.ds z.qs
  pl : z.ps.length = z.C.xs.length
  pp : ∀ i, i < z.C.xs.length → (z.ps.getD i ptD).2 = ((cX z.C i).b, (cX z.C i).z, (i : Int) + 1) ∧ z.P (i + 1) = pV (z.ps.getD i ptD).1
abbrev Tryz.mchP (z : Mz) : List HP := [ptc z.b 74 (mchC (pV z.bm) (pV z.D.1) (pV z.bs) (pV z.bl) (pV z.bp) 0 z.P nilS), Tryz.memH z.bm mem0, Tryz.plnH z.C z.bp,
  ptc z.bs 165 (Tryz.srvC (pV z.bp) (pV z.bm) (pV z.D.1) (pV z.ba) z.ds), bigH Tryz.quH z.qs, Tryz.devH z.D, ptc z.bl 176 (brdC 0 0 z.C.xs.length), bigH (Tryz.parH z.bm) z.ps]
theorem Tryz.mchNo (s : ByteArray) (L : List HP) (hs : s.size ≤ 1000000) (hb : ¬ bootE s = 0) :
    Con Tryz.prog 9 [.string s, .slice none 0 0] L (Exs (fun y : Option Addr × Nat × Nat => .tuple #[.pointer none, .slice y.1 y.2.1 y.2.2, i64W (bootE s)]) (fun _ => L) (fun _ => True)) := by
  have hbt := fun L => Tryz.imgBoot s L hs
  unfold Tryz.BtP at hbt
  have hl : ∀ y, BtOk s y → True := fun _ _ => trivial
  generalize bootE s = e at *
  refine con_of Tryz.tysOk Tryz.func9 rfl rfl ?_
  conv => whnf
  repeat' (first
    | ((with_reducible refine Br.ndt ?_ ?_); (focus (first | assumption | omega)); conv => whnf)
    | ((with_reducible refine Nd.mk ?_ ?_); (focus (first | omega | rfl | assumption | (simp; done))); conv => whnf)
    | ((with_reducible refine Nc.go' (fun _ => ?_)); conv => whnf)
    | (refine St.at 0 rfl (by first | exact Nat.le_of_ble_eq_true rfl | (simp; done)) rfl ?_; conv => whnf)
    | ((with_reducible refine (?_ : Cl _ 8 _ _ _ _)); (refine Cl.exs (hbt _) ?_; rintro ⟨y, la, ln, lc⟩ hy); conv => whnf))
  all_goals first | (exfalso; omega) | exact Exs.of ((la, ln, lc) : Option Addr × Nat × Nat) (by (try dsimp only); (refine FEnt.ent ?_; (repeat (first | exact FEnt.rfl | refine FEnt.drop ?_)); done)) trivial rfl
theorem Tryz.mchBoot (s : ByteArray) (L : List HP) (hs : s.size ≤ 1000000) (hb : bootE s = 0) :
    Con Tryz.prog 9 [.string s, .slice none 0 0] L (Exs (fun z : Mz => .tuple #[pV z.b, .slice none 0 0, n64 0]) (fun z => Tryz.mchP z ++ L) (MzOk s)) := by
  have hbt := fun L => Tryz.imgBoot s L hs
  unfold Tryz.BtP at hbt
  rw [hb] at hbt
  have hmm : ∀ L, Con Tryz.prog 22 [i64V 16384] L (Exs pV (fun b => Tryz.memH b mem0 :: L) (fun _ => True)) := fun L => by
    have := Tryz.memNew 16384 L ⟨by omega, by omega⟩
    rwa [show (min (max (16384 : Int) 0) 16384).toNat = 16384 by decide] at this
  have hdv := fun C bm L hB hR hw hs hc => Tryz.devNew C bm L hB hR hw hs hc
  have hpl := fun C L hB hR hw hs hc => Tryz.plnNew C L hB hR hw hs hc
  have hsv : ∀ C bp bm bd L, Right C → Con Tryz.prog 25 [pV bp, pV bm, pV bd] (Tryz.plnH C bp :: L) (Exs (fun y : Nat × Nat × List Dsk × List Qu => pV y.1) (fun y => [ptc y.1 165 (Tryz.srvC (pV bp) (pV bm) (pV bd) (pV y.2.1) y.2.2.1), bigH Tryz.quH y.2.2.2] ++ (Tryz.plnH C bp :: L)) (fun y => dsOk C C.xs.length y.2.2.1 y.2.2.2)) := fun C bp bm bd L hR => Tryz.srvNew C bp bm bd L hR
  have hbr := fun (C : Cfg) L (hR : Right C) => Tryz.brdNew (C.xs.length : Int) L (by have := hR.f; omega)
  refine con_of Tryz.tysOk Tryz.func9 rfl rfl ?_
  conv => whnf
  repeat' (first
    | (first | ((with_reducible refine Br.df ?_ ?_); (focus (first | assumption | omega)); conv => whnf) | ((with_reducible refine Br.ndf ?_ ?_); (focus (first | assumption | omega)); conv => whnf))
    | ((with_reducible refine Nd.mk ?_ ?_); (focus (first | omega | rfl | assumption | (simp; done))); conv => whnf)
    | ((with_reducible refine Nc.go' (fun _ => ?_)); conv => whnf)
    | (first | (refine Ld.at 0 rfl rfl ?_; conv => whnf) | (refine Ld.at 1 rfl rfl ?_; conv => whnf) | (refine Ld.at 3 rfl rfl ?_; conv => whnf) | (refine Ld.at 6 rfl rfl ?_; conv => whnf) | (refine Ld.at 7 rfl rfl ?_; conv => whnf))
    | (first | (refine LdN.at 2 rfl (by first | exact Nat.le_of_ble_eq_true rfl | (simp; done)) ?_; conv => whnf) | (refine LdN.at 3 rfl (by first | exact Nat.le_of_ble_eq_true rfl | (simp; done)) ?_; conv => whnf))
    | (first | (refine St.at 0 rfl (by first | exact Nat.le_of_ble_eq_true rfl | (simp; done)) rfl ?_; conv => whnf) | (refine St.at 1 rfl (by first | exact Nat.le_of_ble_eq_true rfl | (simp; done)) rfl ?_; conv => whnf) | (refine St.at 2 rfl (by first | exact Nat.le_of_ble_eq_true rfl | (simp; done)) rfl ?_; conv => whnf) | (refine St.at 3 rfl (by first | exact Nat.le_of_ble_eq_true rfl | (simp; done)) rfl ?_; conv => whnf) | (refine St.at 5 rfl (by first | exact Nat.le_of_ble_eq_true rfl | (simp; done)) rfl ?_; conv => whnf) | (refine St.at 6 rfl (by first | exact Nat.le_of_ble_eq_true rfl | (simp; done)) rfl ?_; conv => whnf))
    | ((with_reducible refine Dr.by (id := 14) Tryz.tysOk rfl [(0, 0), (1, 0), (2, 0), (3, 0), (5, 0), (6, 0), (7, 0), (8, 0), (10, 0), (11, 0), (12, 0), (13, 0), (4, 1), (9, 1), (14, 1), (15, 4), (16, 0), (17, 0), (18, 0), (19, 3)] ?_ ?_); (focus kernel_rfl); conv => whnf)
    | ((with_reducible refine Dr.by (id := 8) Tryz.tysOk rfl [(0, 0), (2, 0), (3, 0), (4, 0), (5, 0), (1, 1), (6, 1), (7, 3), (8, 0), (9, 0), (10, 0), (11, 0), (12, 0), (13, 0), (14, 3), (15, 0)] ?_ ?_); (focus kernel_rfl); conv => whnf)
    | (first | ((with_reducible refine (?_ : Cl _ 8 _ _ _ _)); (refine Cl.exs (hbt _) ?_; rintro ⟨y, la, ln, lc⟩ ⟨hok, ⟨⟨w1, w2⟩, ⟨s1, s2⟩, c1, c2⟩, _, _⟩; obtain ⟨htb, hR⟩ := hok hb; dsimp only at w1 w2 s1 s2 c1 c2 htb hR ⊢); conv => whnf) | ((with_reducible refine Cl.exs (hmm _) (fun bm _ => ?_)); conv => whnf) | ((with_reducible refine (?_ : Cl _ 23 _ _ _ _)); (refine Cl.exs (hdv _ _ _ (tb_bd htb ⟨⟨w1, w2⟩, ⟨s1, s2⟩, c1, c2⟩) hR (by ((repeat ((refine Rd.own 3 rfl ?_); (assumption))); done)) (by ((repeat ((refine Rd.own 4 rfl ?_); (assumption))); done)) (by ((repeat ((refine Rd.own 5 rfl ?_); (assumption))); done))) ?_; rintro D hD); conv => whnf) | ((with_reducible refine (?_ : Cl _ 24 _ _ _ _)); (refine Cl.exs (hpl _ _ (tb_bd htb ⟨⟨w1, w2⟩, ⟨s1, s2⟩, c1, c2⟩) hR (by ((repeat ((refine Rd.own 4 rfl ?_); (assumption))); done)) (by ((repeat ((refine Rd.own 5 rfl ?_); (assumption))); done)) (by ((repeat ((refine Rd.own 6 rfl ?_); (assumption))); done))) ?_; rintro bp _); conv => whnf) | ((with_reducible refine Cl.exs (hbr _ _ hR) (fun bl _ => ?_)); conv => whnf))
    | ((refine CN.exsAt 0 rfl (fun M => hsv _ _ _ _ M hR) ?_; rintro ⟨bs, ba, ds, qs⟩ hdk); conv => whnf))
  all_goals try (exfalso; omega)
  rename_i b7 bx _ _ _
  dsimp only at hdk
  conv => whnf
  refine Lp.by3 Tryz.tysOk [99] (fun (k : Nat) (P : Nat → Value) (ps : List Pt) => [.int .i64 k]) (fun k P ps => ptc bx 74 (mchC (pV bm) (pV D.1) (pV bs) (pV bl) (pV bp) 0 P nilS) :: Tryz.memH bm mem0 :: bigH (Tryz.parH bm) ps :: ptc b7 28 (cfC y) :: own clE 46 y.ca y.cc y.xs :: Tryz.plnH y bp :: ptc bs 165 (Tryz.srvC (pV bp) (pV bm) (pV D.1) (pV ba) ds) :: bigH Tryz.quH qs :: Tryz.devH D :: ptc bl 176 (brdC 0 0 y.xs.length) :: L) (fun k P ps => k ≤ y.xs.length ∧ ps.length = k ∧ ∀ i, i < k → (ps.getD i ptD).2 = ((cX y i).b, (cX y i).z, (i : Int) + 1) ∧ P (i + 1) = pV (ps.getD i ptD).1) (fun k P ps => y.xs.length - k) (0) (nilP) (([] : List Pt)) (by kernel_rfl) (by (refine FEnt.ent ?_; (repeat (first | exact FEnt.rfl | (refine FEnt.at 0 rfl ?_; (try simp only [List.eraseIdx_cons_zero, List.eraseIdx_cons_succ, List.eraseIdx_zero, List.tail_cons])) | (refine FEnt.at 1 rfl ?_; (try simp only [List.eraseIdx_cons_zero, List.eraseIdx_cons_succ, List.eraseIdx_zero, List.tail_cons])) | (refine FEnt.at 3 rfl ?_; (try simp only [List.eraseIdx_cons_zero, List.eraseIdx_cons_succ, List.eraseIdx_zero, List.tail_cons])) | (refine FEnt.at 5 rfl ?_; (try simp only [List.eraseIdx_cons_zero, List.eraseIdx_cons_succ, List.eraseIdx_zero, List.tail_cons])) | (refine FEnt.at 6 rfl ?_; (try simp only [List.eraseIdx_cons_zero, List.eraseIdx_cons_succ, List.eraseIdx_zero, List.tail_cons])) | (refine FEnt.at 7 rfl ?_; (try simp only [List.eraseIdx_cons_zero, List.eraseIdx_cons_succ, List.eraseIdx_zero, List.tail_cons])) | (apply FEnt.big0) | refine FEnt.drop ?_)); done)) (⟨by omega, rfl, fun i h => by omega⟩) ?_
  rintro k P ps ⟨h1, h2, h3⟩
  conv => whnf
  repeat (intro _; conv => whnf)
  by_cases hk : k < y.xs.length
  · have hg := (right_good hR hk).1
    have hf8 := hR.f
    have hg1 : 128 ≤ (y.xs.getD k clE.d).b ∧ (y.xs.getD k clE.d).b ≤ 16384 - (y.xs.getD k clE.d).z ∧ 32 ≤ (y.xs.getD k clE.d).z := ⟨hg.2.2.1, hg.2.2.2, hg.1⟩
    have hk8 : k < 8 := by omega
    have hpn := fun L => Tryz.parNew0 bm (y.xs.getD k clE.d).b (y.xs.getD k clE.d).z ((k : Int) + 1) L (by omega) (by omega) (by omega) ⟨by omega, by omega⟩
    clear hf8
    conv => whnf
    repeat' (first
      | (first | ((with_reducible refine Br.dt ?_ ?_); (focus (first | assumption | omega)); conv => whnf) | ((with_reducible refine Br.df ?_ ?_); (focus (first | assumption | omega)); conv => whnf) | ((with_reducible refine Br.ndf ?_ ?_); (focus (first | assumption | omega)); conv => whnf))
      | ((with_reducible refine Ar.i64 ?_ ?_); (focus omega); conv => whnf)
      | ((with_reducible refine Nd.mk ?_ ?_); (focus (first | omega | rfl | assumption | (simp; done))); conv => whnf)
      | ((with_reducible refine Nc.go' (fun _ => ?_)); conv => whnf)
      | ((refine Ix.arr (by omega) ?_); conv => whnf)
      | ((with_reducible refine Ix.ad ?_ ?_ ?_); (focus (assumption)); (focus (omega)); conv => whnf)
      | (first | (refine Ld.at 0 rfl rfl ?_; conv => whnf) | (refine Ld.at 1 rfl rfl ?_; conv => whnf))
      | ((with_reducible apply LdN.rdk); (focus ((repeat ((refine Rd.own 4 rfl ?_); (assumption))); done)); (focus rfl); (focus rfl); (focus (omega)); conv => whnf)
      | (first | ((refine St.prt 3 rfl ⟨by omega, by omega⟩ ?_); conv => whnf) | (refine St.at 0 rfl (by first | exact Nat.le_of_ble_eq_true rfl | (simp; done)) rfl ?_; conv => whnf))
      | ((with_reducible refine Dr.by (id := 22) Tryz.tysOk rfl [(0, 0), (1, 0), (2, 0), (3, 0), (4, 0), (5, 0), (7, 0), (9, 0), (12, 0), (6, 1), (8, 1), (10, 1), (11, 0), (13, 3), (14, 0), (15, 0), (16, 0), (17, 0), (18, 0)] ?_ ?_); (focus kernel_rfl); conv => whnf)
      | (apply (Cl.pre [Tryz.memH bm _]); (focus ((repeat (first | exact FEnt.rfl | (refine FEnt.at 2 rfl ?_; (try simp only [List.eraseIdx_cons_zero, List.eraseIdx_cons_succ, List.eraseIdx_zero, List.tail_cons])))); done)); refine Cl.exs (hpn _) ?_; rintro bpt _; conv => whnf))
    all_goals try (exfalso; omega)
    all_goals
      refine ⟨k + 1, updP P ((k : Int) + 1).toNat (.pointer (some ⟨bpt, 0, none⟩)), ps ++ [(bpt, (y.xs.getD k clE.d).b, (y.xs.getD k clE.d).z, (k : Int) + 1)], by kernel_rfl, by (try dsimp only); (refine FEnt.ent ?_; (repeat (first | exact FEnt.rfl | (refine FEnt.at 0 rfl ?_; (try simp only [List.eraseIdx_cons_zero, List.eraseIdx_cons_succ, List.eraseIdx_zero, List.tail_cons])) | (refine FEnt.at 1 rfl ?_; (try simp only [List.eraseIdx_cons_zero, List.eraseIdx_cons_succ, List.eraseIdx_zero, List.tail_cons])) | (refine FEnt.at 3 rfl ?_; (try simp only [List.eraseIdx_cons_zero, List.eraseIdx_cons_succ, List.eraseIdx_zero, List.tail_cons])) | (apply FEnt.bigS) | refine FEnt.drop ?_)); done), ⟨by omega, by rw [List.length_append, h2]; rfl, fun i hi => ?_⟩, by omega⟩
      have e1 : ((k : Int) + 1).toNat = k + 1 := by omega
      rw [e1]
      by_cases e : i = k
      · subst e
        rw [getD_eqn h2]
        exact ⟨rfl, if_pos rfl⟩
      · rw [getD_lt (by omega)]
        refine ⟨(h3 i (by omega)).1, ?_⟩
        rw [← (h3 i (by omega)).2]
        exact if_neg (by omega)
  · have e : k = y.xs.length := by omega
    subst e
    conv => whnf
    repeat' ((with_reducible refine Br.df ?_ ?_); (focus (first | assumption | omega)); conv => whnf)
    all_goals exact Exs.of (⟨y, bx, bm, bs, bl, bp, ba, D, ds, qs, P, ps⟩ : Mz) (by (try dsimp only); (refine FEnt.ent ?_; (repeat (first | exact FEnt.rfl | (refine FEnt.at 0 rfl ?_; (try simp only [List.eraseIdx_cons_zero, List.eraseIdx_cons_succ, List.eraseIdx_zero, List.tail_cons])) | (refine FEnt.at 3 rfl ?_; (try simp only [List.eraseIdx_cons_zero, List.eraseIdx_cons_succ, List.eraseIdx_zero, List.tail_cons])) | refine FEnt.drop ?_)); done)) ⟨htb, hR, hD, hdk, h2, h3⟩ rfl
end Go.Proofs
set_option linter.all false
namespace Go.Proofs
open Go.Eng
open Classical
set_option linter.unusedVariables false
set_option maxRecDepth 100000
set_option maxHeartbeats 4000000
abbrev itemZ : Value := .agg #[n64 0, .int .u8 0, .int .u8 0, n64 0, n64 0, n64 0, .bool false]
theorem Tryz.fifoPeek0 (f : Nat) (l : Int) (L : List HP) : Con Tryz.prog 232 [pV f, n64 0] (ptc f 314 (qC l) :: L) (Is (.tuple #[itemZ, .bool false]) (ptc f 314 (qC l) :: L)) := by
  refine con_of Tryz.tysOk Tryz.func232 rfl rfl ?_
  conv => whnf
  repeat' (first
    | (first | ((with_reducible refine Br.ff ?_); conv => whnf) | ((with_reducible refine Br.sn ?_); conv => whnf) | ((with_reducible refine Br.dt ?_ ?_); (focus (first | assumption | omega)); conv => whnf) | ((with_reducible refine Br.df ?_ ?_); (focus (first | assumption | omega)); conv => whnf))
    | ((with_reducible refine Nd.mk ?_ ?_); (focus (first | omega | rfl | assumption | (simp; done))); conv => whnf)
    | ((with_reducible refine Nc.go' (fun _ => ?_)); conv => whnf)
    | (refine Ld.at 1 rfl rfl ?_; conv => whnf)
    | (first | (refine LdN.at 0 rfl (by first | exact Nat.le_of_ble_eq_true rfl | (simp; done)) ?_; conv => whnf) | (refine LdN.at 1 rfl (by first | exact Nat.le_of_ble_eq_true rfl | (simp; done)) ?_; conv => whnf))
    | (refine St.at 1 rfl (by first | exact Nat.le_of_ble_eq_true rfl | (simp; done)) rfl ?_; conv => whnf))
  all_goals first | (exfalso; omega) | (refine Is.ent ?_ ?_; (focus (refine FEnt.ent ?_; (repeat (first | exact FEnt.rfl | (refine FEnt.at 2 rfl ?_; (try simp only [List.eraseIdx_cons_zero, List.eraseIdx_cons_succ, List.eraseIdx_zero, List.tail_cons])) | refine FEnt.drop ?_)); done)); (exact Is.rfl))
abbrev Tryz.quP (q f : Nat) (l : Int) (L : List HP) : List HP := ptc q 275 [pV f, .slice none 0 0] :: ptc f 314 (qC l) :: L
theorem Tryz.quSettleB (q f : Nat) (l : Int) (L : List HP) : Con Tryz.prog 209 [pV q] (ptc q 275 [pV f, .slice none 0 0] :: ptc f 314 (qC l) :: L) (Is (n64 0) (ptc q 275 [pV f, .slice none 0 0] :: ptc f 314 (qC l) :: L)) := by
  refine con_of Tryz.tysOk Tryz.func209 rfl rfl ?_
  conv => whnf
  repeat' (first
    | ((with_reducible refine Br.nsn ?_); conv => whnf)
    | ((with_reducible refine Nd.mk ?_ ?_); (focus (first | omega | rfl | assumption | (simp; done))); conv => whnf)
    | ((with_reducible refine Nc.go' (fun _ => ?_)); conv => whnf)
    | (refine Ld.at 0 rfl rfl ?_; conv => whnf)
    | (refine St.at 0 rfl (by first | exact Nat.le_of_ble_eq_true rfl | (simp; done)) rfl ?_; conv => whnf)
    | ((refine Cl.isAt 1 rfl (Tryz.fifoPeek0 f l _) ?_); conv => whnf))
  refine Lp.unr 1 (LpU.step Tryz.tysOk ?_)
  conv => whnf
  repeat' ((with_reducible refine Br.ff ?_); conv => whnf)
  all_goals first | (exfalso; omega) | (refine Is.ent ?_ ?_; (focus (refine FEnt.ent ?_; (repeat (first | exact FEnt.rfl | (refine FEnt.at 1 rfl ?_; (try simp only [List.eraseIdx_cons_zero, List.eraseIdx_cons_succ, List.eraseIdx_zero, List.tail_cons])) | refine FEnt.drop ?_)); done)); (exact Is.rfl))
theorem Tryz.quOpen {P : Program} {g : FuncId} {args : List Value} {y : Qu} {L : List HP} {R : Value → List HP → Prop} (k : Con P g args (ptc y.1 275 [pV y.2.1, .slice none 0 0] :: ptc y.2.1 314 (qC y.2.2) :: L) R) : Con P g args (Tryz.quH y :: L) R :=
  Con.entl (fun w s => ent_star w s) k
theorem Tryz.quHead (y : Qu) (L : List HP) : Con Tryz.prog 203 [pV y.1] (Tryz.quH y :: L) (Is (.tuple #[itemZ, .bool false]) (Tryz.quH y :: L)) := by
  obtain ⟨q, f, l⟩ := y
  refine Tryz.quOpen ?_
  dsimp only
  refine con_of Tryz.tysOk Tryz.func203 rfl rfl ?_
  conv => whnf
  repeat' (first
    | ((with_reducible refine Br.sn ?_); conv => whnf)
    | ((with_reducible refine Nd.mk ?_ ?_); (focus (first | omega | rfl | assumption | (simp; done))); conv => whnf)
    | ((with_reducible refine Nc.go' (fun _ => ?_)); conv => whnf)
    | (refine Ld.at 0 rfl rfl ?_; conv => whnf)
    | (refine LdN.at 2 rfl (by first | exact Nat.le_of_ble_eq_true rfl | (simp; done)) ?_; conv => whnf)
    | (refine St.at 2 rfl (by first | exact Nat.le_of_ble_eq_true rfl | (simp; done)) rfl ?_; conv => whnf)
    | (first | ((refine Cl.isAt2 1 1 rfl rfl (Tryz.quSettleB q f l _) ?_); conv => whnf) | ((refine Cl.isAt 1 rfl (Tryz.fifoPeek0 f l _) ?_); conv => whnf)))
  all_goals first | (exfalso; omega) | (refine Is.ent ?_ ?_; (focus (refine FEnt.ent ?_; (repeat (first | exact FEnt.rfl | (refine FEnt.at 0 rfl ?_; (try simp only [List.eraseIdx_cons_zero, List.eraseIdx_cons_succ, List.eraseIdx_zero, List.tail_cons])) | refine FEnt.star ?_ | refine FEnt.drop ?_)); done)); (exact Is.rfl))
theorem Tryz.quPost (y : Qu) (L : List HP) : Con Tryz.prog 181 [pV y.1] (Tryz.quH y :: L) (Is (.slice none 0 0) (Tryz.quH y :: L)) := by
  obtain ⟨q, f, l⟩ := y
  refine Tryz.quOpen ?_
  dsimp only
  refine con_of Tryz.tysOk Tryz.func181 rfl rfl ?_
  conv => whnf
  repeat' (first
    | ((with_reducible refine Br.sn ?_); conv => whnf)
    | ((with_reducible refine Nd.mk ?_ ?_); (focus (first | omega | rfl | assumption | (simp; done))); conv => whnf)
    | (refine Ld.at 0 rfl rfl ?_; conv => whnf)
    | (refine St.at 0 rfl (by first | exact Nat.le_of_ble_eq_true rfl | (simp; done)) rfl ?_; conv => whnf)
    | ((refine Cl.isAt2 0 0 rfl rfl (Tryz.quSettleB q f l _) ?_); conv => whnf))
  all_goals first | (exfalso; omega) | (refine Is.ent ?_ ?_; (focus (refine FEnt.ent ?_; (repeat (first | exact FEnt.rfl | refine FEnt.star ?_)); done)); (exact Is.rfl))
/-! its ring -/
theorem Tryz.rngLow0 (n : Int) (L : List HP) (h : n = 0) : Con Tryz.prog 79 [n64 n] L (Is (n64 0) L) := by
  subst h
  refine con_of Tryz.tysOk Tryz.func79 rfl rfl ?_
  conv => whnf
  repeat' ((with_reducible refine Bt.low8 ?_ ?_); (focus (first | assumption | omega)); conv => whnf)
  all_goals first | (exfalso; omega) | (refine Is.ent ?_ ?_; (focus (exact Ent.rfl)); (exact Is.rfl))
theorem Tryz.rngNew0 (L : List HP) : Con Tryz.prog 241 [n64 0, n64 0] L (Is (n64 0) L) := by
  refine con_of Tryz.tysOk Tryz.func241 rfl rfl ?_
  conv => whnf
  repeat' (first
    | ((with_reducible refine Ar.i64 ?_ ?_); (focus omega); conv => whnf)
    | ((with_reducible refine Cl.is (Tryz.rngLow0 _ _ rfl) ?_); conv => whnf))
  all_goals first | (exfalso; omega) | (refine Is.ent ?_ ?_; (focus (exact Ent.rfl)); (exact Is.rfl))
theorem Tryz.rngRight1 (L : List HP) : Con Tryz.prog 265 [n64 1] L (Is (.bool true) L) := by
  refine con_of Tryz.tysOk Tryz.func265 rfl rfl ?_
  conv => whnf
  repeat' skip
  refine Sc.plain Tryz.tysOk ?_
  conv => whnf
  repeat' (first | ((with_reducible refine Br.ff ?_); conv => whnf) | ((with_reducible refine Br.dt ?_ ?_); (focus (first | assumption | omega)); conv => whnf) | ((with_reducible refine Br.df ?_ ?_); (focus (first | assumption | omega)); conv => whnf))
  all_goals first | (exfalso; omega) | (refine Is.ent ?_ ?_; (focus (exact Ent.rfl)); (exact Is.rfl))
theorem Tryz.rngRoom0 (L : List HP) : Con Tryz.prog 242 [n64 0, n64 0, n64 1] L (Is (n64 1) L) := by
  refine con_of Tryz.tysOk Tryz.func242 rfl rfl ?_
  conv => whnf
  repeat' (first
    | (first | ((with_reducible refine Br.ff ?_); conv => whnf) | ((with_reducible refine Br.nt ?_); conv => whnf) | ((with_reducible refine Br.df ?_ ?_); (focus (first | assumption | omega)); conv => whnf))
    | ((with_reducible refine Ar.i64 ?_ ?_); (focus omega); conv => whnf)
    | ((with_reducible refine Cl.is (Tryz.rngRight1 _) ?_); conv => whnf))
  all_goals first | (exfalso; omega) | (refine Is.ent ?_ ?_; (focus (exact Ent.rfl)); (exact Is.rfl))
theorem Tryz.rngTake0 (L : List HP) : Con Tryz.prog 216 [n64 0, n64 0, n64 0, n64 1] L (Is (n64 0) L) := by
  refine con_of Tryz.tysOk Tryz.func216 rfl rfl ?_
  conv => whnf
  repeat' (first | ((with_reducible refine Cl.is (Tryz.rngNew0 _) ?_); conv => whnf) | ((with_reducible refine Cl.is (Tryz.rngRoom0 _) ?_); conv => whnf))
  all_goals first | (exfalso; omega) | (refine Is.ent ?_ ?_; (focus (exact Ent.rfl)); (exact Is.rfl))
theorem Tryz.rngFrom0 (L : List HP) : Con Tryz.prog 240 [n64 0] L (Is (n64 0) L) := by
  refine con_of Tryz.tysOk Tryz.func240 rfl rfl ?_
  conv => whnf
  repeat' skip
  all_goals first | (exfalso; omega) | (refine Is.ent ?_ ?_; (focus (exact Ent.rfl)); (exact Is.rfl))
theorem Tryz.rngPut0 (L : List HP) : Con Tryz.prog 215 [n64 0] L (Is (n64 0) L) := by
  refine con_of Tryz.tysOk Tryz.func215 rfl rfl ?_
  conv => whnf
  repeat' ((with_reducible refine Cl.is (Tryz.rngFrom0 _) ?_); conv => whnf)
  all_goals first | (exfalso; omega) | (refine Is.ent ?_ ?_; (focus (exact Ent.rfl)); (exact Is.rfl))
/-! its memory -/
abbrev cl0 : Cli := ⟨128, 64, 1, 0, 2, 2, 0, 3, 0, 0⟩
abbrev cl0V : Value := .agg #[n64 128, n64 64, n64 1, n64 0, n64 2, n64 2, n64 0, n64 3, n64 0, n64 0]
theorem mem0_len : mem0.length = 16384 := List.length_replicate
theorem mem0_at (k : Nat) : bAt mem0 k = 0 := by
  unfold mem0 zeros
  show (((List.replicate 16384 (0 : UInt8)).getD k 0).toNat : Int) = 0
  rw [List.getD_eq_getElem?_getD, List.getElem?_replicate]
  split <;> rfl
theorem Tryz.postThere (bm : Nat) (L : List HP) : Con Tryz.prog 210 [pV bm, cl0V] (Tryz.memH bm mem0 :: L) (Is (.bool true) (Tryz.memH bm mem0 :: L)) := by
  have hl := mem0_len
  have ht := fun L => Tryz.memText bm mem0 128 64 128 64 L (by omega) rfl rfl (by omega)
  generalize mem0 = Z at *
  refine con_of Tryz.tysOk Tryz.func210 rfl rfl ?_
  conv => whnf
  repeat' (first
    | (first | ((with_reducible refine Br.tt ?_); conv => whnf) | ((with_reducible refine Br.dt ?_ ?_); (focus (first | assumption | omega)); conv => whnf))
    | ((with_reducible refine Nd.mk ?_ ?_); (focus (first | omega | rfl | assumption | (simp; done))); conv => whnf)
    | ((with_reducible refine Nc.go' (fun _ => ?_)); conv => whnf)
    | (refine Ld.at 0 rfl rfl ?_; conv => whnf)
    | ((refine Cl.isAt 1 rfl (ht _) ?_); conv => whnf))
  all_goals first | (exfalso; omega) | (refine Is.ent ?_ ?_; (focus (refine FEnt.ent ?_; (repeat (first | exact FEnt.rfl | (refine FEnt.at 1 rfl ?_; (try simp only [List.eraseIdx_cons_zero, List.eraseIdx_cons_succ, List.eraseIdx_zero, List.tail_cons])) | refine FEnt.drop ?_)); done)); (exact Is.rfl))
theorem Tryz.postWrite (bm : Nat) (L : List HP) : Con Tryz.prog 182 [pV bm, cl0V, n64 0, .slice none 0 0] (Tryz.memH bm mem0 :: L) (Is (.tuple #[n64 0, n64 0]) (Tryz.memH bm mem0 :: L)) := by
  have ht := fun L => Tryz.postThere bm L
  generalize mem0 = Z at *
  refine con_of Tryz.tysOk Tryz.func182 rfl rfl ?_
  conv => whnf
  repeat' (first
    | ((with_reducible refine Br.nt ?_); conv => whnf)
    | ((with_reducible refine Nc.go' (fun _ => ?_)); conv => whnf)
    | (refine LdN.at 0 rfl (by first | exact Nat.le_of_ble_eq_true rfl | (simp; done)) ?_; conv => whnf)
    | ((refine Cl.isAt 1 rfl (ht _) ?_); conv => whnf))
  refine Lp.unr 1 (LpU.step Tryz.tysOk ?_)
  conv => whnf
  repeat' ((with_reducible refine Br.df ?_ ?_); (focus (first | assumption | omega)); conv => whnf)
  all_goals first | (exfalso; omega) | (refine Is.ent ?_ ?_; (focus (refine FEnt.ent ?_; (repeat (first | exact FEnt.rfl | (refine FEnt.at 1 rfl ?_; (try simp only [List.eraseIdx_cons_zero, List.eraseIdx_cons_succ, List.eraseIdx_zero, List.tail_cons])) | refine FEnt.drop ?_)); done)); (exact Is.rfl))
theorem Tryz.postCollect (bm : Nat) (L : List HP) : Con Tryz.prog 184 [pV bm, cl0V, n64 0, n64 0] (Tryz.memH bm mem0 :: L) (Is (.tuple #[.slice none 0 0, n64 0]) (Tryz.memH bm mem0 :: L)) := by
  have hl := mem0_len
  have ht := fun L => Tryz.postThere bm L
  have hg : ∀ L, Con Tryz.prog 214 [pV bm, i64V (128 + 0)] (Tryz.memH bm mem0 :: L) (Is (.tuple #[i64V 0, i64V 0]) (Tryz.memH bm mem0 :: L)) := fun L => by
    have := Tryz.memGet bm mem0 128 (128 + 0) L (by omega) rfl (by omega)
    rwa [mem0_at] at this
  generalize mem0 = Z at *
  refine con_of Tryz.tysOk Tryz.func184 rfl rfl ?_
  conv => whnf
  repeat' (first
    | (first | ((with_reducible refine Br.nt ?_); conv => whnf) | ((with_reducible refine Br.ndf ?_ ?_); (focus (first | assumption | omega)); conv => whnf))
    | ((with_reducible refine Ar.i64 ?_ ?_); (focus omega); conv => whnf)
    | ((with_reducible refine Nd.mk ?_ ?_); (focus (first | omega | rfl | assumption | (simp; done))); conv => whnf)
    | ((with_reducible refine Nc.go' (fun _ => ?_)); conv => whnf)
    | (refine Ld.at 0 rfl rfl ?_; conv => whnf)
    | (refine LdN.at 0 rfl (by first | exact Nat.le_of_ble_eq_true rfl | (simp; done)) ?_; conv => whnf)
    | ((with_reducible refine Dr.by (id := 3) Tryz.tysOk rfl [(0, 0), (1, 0), (3, 0), (2, 1), (4, 1), (5, 1), (6, 0), (7, 1), (8, 0), (9, 0), (10, 0), (11, 0), (12, 0)] ?_ ?_); (focus kernel_rfl); conv => whnf)
    | (first | ((with_reducible refine CD.is (fun M => Tryz.rngPut0 _) ?_); conv => whnf) | ((with_reducible refine CD.isAt 1 rfl (fun M => hg _) ?_); conv => whnf))
    | (first | ((refine Cl.isAt 1 rfl (ht _) ?_); conv => whnf) | ((with_reducible refine Cl.is (Tryz.rngTake0 _) ?_); conv => whnf)))
  all_goals try (exfalso; omega)
  refine Lp.unr 1 (LpU.step Tryz.tysOk ?_)
  conv => whnf
  repeat' ((with_reducible refine Br.df ?_ ?_); (focus (first | assumption | omega)); conv => whnf)
  all_goals first | (exfalso; omega) | (refine Is.ent ?_ ?_; (focus (refine FEnt.ent ?_; (repeat (first | exact FEnt.rfl | (refine FEnt.at 1 rfl ?_; (try simp only [List.eraseIdx_cons_zero, List.eraseIdx_cons_succ, List.eraseIdx_zero, List.tail_cons])) | refine FEnt.drop ?_)); done)); (exact Is.rfl))
end Go.Proofs
