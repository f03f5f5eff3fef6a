/- An image is booted: contracts. -/
import Derived.Test.YtdjpcfaidgofoaaGreatTopJ
import Derived.Test.YtdjpcfaidgofoaaGreatTopK
import Derived.Test.YtdjpcfaidgofoaaGreatTopSm
import Derived.Test.YtdjpcfaidgofoaaGreatSortI
set_option linter.all false
namespace Go.Proofs
open Go.Eng
open Classical
set_option linter.unusedVariables false
set_option maxRecDepth 100000
set_option maxHeartbeats 4000000
theorem getD_set_eq {α : Type} {xs : List α} {k : Nat} {x d : α} (h : k < xs.length) : (xs.set k x).getD k d = x := by simp [List.getD, h]
theorem getD_set_ne {α : Type} {xs : List α} {k i : Nat} {x d : α} (h : i ≠ k) : (xs.set k x).getD i d = xs.getD i d := by simp [List.getD, List.getElem?_set_ne (Ne.symm h)]
theorem Tryz.quoNew (F : Int) (a : Option Addr) (c : Nat) (qs : List Int) (L : List HP) (hF : okF F) (hl : qs.length ≤ 8) (hq : ∀ i, i < qs.length → 1 ≤ qs.getD i intE.d ∧ qs.getD i intE.d ≤ 16) (hr : Rd intE L a qs) :
    Con Tryz.prog 71 [n64 F, .slice a qs.length c] L (Exs (fun y : Nat => .tuple #[pV y, n64 0]) (fun _ => L) (fun _ => True)) := by
  refine con_of Tryz.tysOk Tryz.func71 rfl rfl ?_
  conv => whnf
  repeat' (first
    | (first | ((with_reducible refine Br.nt ?_); conv => whnf) | ((with_reducible refine Br.df ?_ ?_); (focus (first | assumption | omega)); conv => whnf))
    | ((with_reducible refine Nc.go' (fun _ => ?_)); conv => whnf)
    | ((with_reducible refine Cl.is (Con.dt hF (Tryz.clkRight _ _)) ?_); conv => whnf))
  rename_i ba
  conv => whnf
  refine Lp.by2 Tryz.tysOk [24] (fun (k : Nat) (cs : List Value) => [.int .i64 k]) (fun k cs => ptc ba 280 cs :: L) (fun k cs => k ≤ qs.length ∧ cs.length = 35) (fun k cs => qs.length - k) (0) ([n64 F, n64 qs.length, n64 0, n64 0, n64 0, n64 0, n64 0, n64 0, n64 0, n64 0, n64 0, n64 0, n64 0, n64 0, n64 0, n64 0, n64 0, n64 0, n64 0, n64 0, n64 0, n64 0, n64 0, n64 0, n64 0, n64 0, n64 0, n64 0, n64 0, n64 0, n64 0, n64 0, n64 0, n64 0, n64 0]) (by kernel_rfl) (by (exact Ent.rfl)) (⟨by omega, rfl⟩) ?_
  rintro k cs ⟨h1, h2⟩
  conv => whnf
  repeat (intro _; conv => whnf)
  by_cases hk : k < qs.length
  · have hqk := hq k hk
    conv => whnf
    repeat' (first
      | (first | ((with_reducible refine Br.ff ?_); conv => whnf) | ((with_reducible refine Br.dt ?_ ?_); (focus (first | assumption | omega)); conv => whnf) | ((with_reducible refine Br.df ?_ ?_); (focus (first | assumption | omega)); conv => whnf))
      | ((with_reducible refine Ar.i64 ?_ ?_); (focus omega); conv => whnf)
      | ((with_reducible refine Nd.mk ?_ ?_); (focus (first | omega | rfl | assumption | (simp; done))); conv => whnf)
      | ((refine Ix.arr (by omega) ?_); conv => whnf)
      | ((with_reducible refine Ix.ad ?_ ?_ ?_); (focus (exact Rd.ad (by assumption))); (focus (omega)); conv => whnf)
      | ((with_reducible apply Ld.rdk0); (focus ((repeat (first | assumption | apply Rd.cons)); done)); (focus rfl); (focus (omega)); (focus rfl); conv => whnf)
      | ((refine St.at 0 rfl (by rw [h2]; show 3 + (k : Int).toNat * 4 + 1 ≤ 35; omega) rfl ?_); conv => whnf))
    all_goals try (exfalso; omega)
    all_goals exact ⟨k + 1, _, by kernel_rfl, by (try dsimp only); (exact Ent.rfl), ⟨by omega, by rw [ovr_len]; exact h2⟩, by omega⟩
  · have e : k = qs.length := by omega
    subst e
    conv => whnf
    repeat' ((with_reducible refine Br.df ?_ ?_); (focus (first | assumption | omega)); conv => whnf)
    all_goals exact Exs.of ba (by (try dsimp only); (refine FEnt.ent ?_; (repeat (first | exact FEnt.rfl | refine FEnt.drop ?_)); done)) trivial rfl
/-- what the server has for a client: its row, its queue, what was taken, what was completed, does a unit go on -/
abbrev Dsk := Cli × Option Addr × Int × Int × Bool
def dsD : Dsk := (⟨0, 0, 0, 0, 0, 0, 0, 0, 0, 0⟩, none, 0, 0, false)
def dsE : Enc Dsk := ⟨14, fun x => [n64 x.1.b, n64 x.1.z, n64 x.1.r, n64 x.1.t, n64 x.1.q, n64 x.1.u, n64 x.1.m, n64 x.1.h, n64 x.1.f, n64 x.1.s, .pointer x.2.1, n64 x.2.2.1, n64 x.2.2.2.1, .bool x.2.2.2.2], dsD, fun _ => rfl, by omega, fun _ => rfl⟩
def quD : Qu := (0, 0, 0)
/-- desks, up to the k'th client's -/
def dsOk (C : Cfg) (k : Nat) (ds : List Dsk) (qs : List Qu) : Prop := ds.length = 9 ∧ qs.length = k ∧ ∀ i, i < k → ds.getD (i + 1) dsD = (cX C i, some ⟨(qs.getD i quD).1, 0, none⟩, 0, 0, false) ∧ (qs.getD i quD).2.2 = (cX C i).r
abbrev Tryz.srvC (bp bm bd ba : Value) (ds : List Dsk) : List Value := [bp, bm, bd, ba] ++ (dsE.flat ds ++ [])
theorem Tryz.srvNew (C : Cfg) (bp bm bd : Nat) (L : List HP) (hR : Right C) :
    Con Tryz.prog 25 [pV bp, pV bm, pV bd] (Tryz.plnH C bp :: L) (Exs (fun y : Nat × Nat × List Dsk × List Qu => pV y.1) (fun y => ptc y.1 165 (Tryz.srvC (pV bp) (pV bm) (pV bd) (pV y.2.1) y.2.2.1) :: bigH Tryz.quH y.2.2.2 :: Tryz.plnH C bp :: L) (fun y => dsOk C C.xs.length y.2.2.1 y.2.2.2)) := by
  have hf := hR.f
  have hl : C.xs.length ≤ 8 := by omega
  have hqr : ∀ i, i < C.xs.length → (1 ≤ (cX C i).q ∧ (cX C i).q ≤ 16) ∧ 0 ≤ (cX C i).r ∧ (cX C i).r ≤ 16 := fun i hi => by
    have hg := right_good hR hi
    have hr0 := hg.2.1.1
    refine ⟨hg.2.2.1.imp_right fun h => h.1, ?_⟩
    unfold ringN at hr0
    split at hr0
    · rename_i h; omega
    · exact absurd rfl hr0
  have how := fun L => Tryz.plnOwners C bp L
  have hfr := fun L => Tryz.plnFrame C bp L
  have hqu := fun a c L hr => Tryz.quoNew C.F a c (rowsF (fun i => (cX C i).q) C.xs.length) L ⟨by omega, by omega⟩ (by rw [rowsF_len]; exact hl) (fun i hi => by rw [rowsF_len] at hi; rw [rowsF_getD _ _ hi]; exact (hqr i hi).1) hr
  refine con_of Tryz.tysOk Tryz.func25 rfl rfl ?_
  conv => whnf
  repeat' (first
    | (first | ((with_reducible refine Br.ff ?_); conv => whnf) | ((with_reducible refine Br.sn ?_); conv => whnf))
    | ((with_reducible refine Nc.go' (fun _ => ?_)); conv => whnf))
  rename_i bs
  conv => whnf
  refine Lp.by4 Tryz.tysOk [9, 8] (fun (k : Nat) (x : Option Addr × Nat × List Int) (ds : List Dsk) (qs : List Qu) => [.int .i64 ((k : Int) + 1), .slice x.1 x.2.2.length x.2.1]) (fun k x ds qs => ptc bs 165 (Tryz.srvC (pV bp) (pV bm) (pV bd) (.pointer none) ds) :: own intE 3 x.1 x.2.1 x.2.2 :: bigH Tryz.quH qs :: Tryz.plnH C bp :: L) (fun k x ds qs => k ≤ C.xs.length ∧ (x.2.2 = rowsF (fun i => (cX C i).q) k ∧ x.2.2.length ≤ x.2.1 ∧ Ad x.1 x.2.2.length) ∧ dsOk C k ds qs) (fun k x ds qs => C.xs.length - k) (0) (((none, 0, []) : Option Addr × Nat × List Int)) ([dsD, dsD, dsD, dsD, dsD, dsD, dsD, dsD, dsD]) (([] : List Qu)) (by kernel_rfl) (by (refine FEnt.ent ?_; (repeat (first | exact FEnt.rfl | (refine FEnt.at 0 rfl ?_; (try simp only [List.eraseIdx_cons_zero, List.eraseIdx_cons_succ, List.eraseIdx_zero, List.tail_cons])) | (apply FEnt.big0) | refine FEnt.nil ?_)); done)) (⟨by omega, ⟨rfl, Nat.le_refl _, fun h => (h rfl).elim⟩, ⟨rfl, rfl, fun i h => by omega⟩⟩) ?_
  rintro k ⟨xa, xc, X⟩ ds qs ⟨h1, ⟨x1, x2, x3⟩, d1, d2, d3⟩
  conv => whnf
  repeat (intro _; conv => whnf)
  dsimp only at x1 x2 x3
  by_cases hk : k < C.xs.length
  · have xl : X.length = k := by rw [x1, rowsF_len]
    have xs := rowsF_succ (fun i => (cX C i).q) k
    rw [← x1] at xs
    obtain ⟨hq1, hr1, hr2⟩ := hqr k hk
    have hcl := fun L => Tryz.plnClient C bp k ((k : Int) + 1) L rfl hk hl
    have hqn : ∀ L, Con Tryz.prog 70 [n64 (C.xs.getD k clE.d).r] L (Exs (fun y : Nat × Nat => pV y.1) (fun y => [Tryz.quH (y.1, y.2, (C.xs.getD k clE.d).r)] ++ L) (fun _ => True)) := fun L => Tryz.queNew _ L ⟨hr1, hr2⟩
    clear x1
    conv => whnf
    repeat' (first
      | ((with_reducible refine Br.dt ?_ ?_); (focus (first | assumption | omega)); conv => whnf)
      | ((with_reducible refine Ar.i64 ?_ ?_); (focus omega); conv => whnf)
      | ((with_reducible refine Nd.mk ?_ ?_); (focus (first | omega | rfl | assumption | (simp; done))); conv => whnf)
      | ((with_reducible refine Nc.go' (fun _ => ?_)); conv => whnf)
      | ((refine Ix.arr (by omega) ?_); conv => whnf)
      | (first | (refine Ld.at 0 rfl rfl ?_; conv => whnf) | (refine Ld.at 2 rfl rfl ?_; conv => whnf))
      | (refine LdN.at 2 rfl (by first | exact Nat.le_of_ble_eq_true rfl | (simp; done)) ?_; conv => whnf)
      | (first | ((refine St.arrE (E := dsE) (A := [_, _, _, _]) (B := []) 4 rfl rfl rfl ⟨by omega, by rw [d1]; omega⟩ ((C.xs.getD k clE.d, some ⟨q, 0, none⟩, 0, 0, false) : Dsk) rfl ?_); conv => whnf) | (refine St.at 0 rfl (by first | exact Nat.le_of_ble_eq_true rfl | (simp; done)) rfl ?_; conv => whnf))
      | ((with_reducible refine Dr.by (id := 10) Tryz.tysOk rfl [(0, 0), (1, 0), (3, 0), (7, 0), (8, 0), (2, 1), (4, 1), (5, 4), (6, 0), (9, 0), (10, 3)] ?_ ?_); (focus kernel_rfl); conv => whnf)
      | ((with_reducible refine CN.exs (fun M => hqn _) (fun ⟨q, f⟩ _ => ?_)); conv => whnf)
      | (first | ((refine Cl.isAt 3 rfl (how _) ?_); conv => whnf) | ((refine Cl.isAt 3 rfl (hcl _) ?_); conv => whnf))
      | ((with_reducible refine (?_ : Sm _ (Builtin.append_ _ _ _) _ _)); (((with_reducible apply (Sm.appAt (E := intE) (et := 3) Tryz.tysOk 3)); (focus rfl)); (rotate_left; (focus (exact Rd.ptc 0 rfl [_] rfl)); rotate_right; (focus rfl)); (focus rfl); (focus rfl); (focus rfl); (focus rfl); (focus rfl); (focus rfl); (focus ((simp only [List.length_append, List.length_cons, List.length_nil]); omega)); (intro _ _ _ _); conv => whnf)))
    all_goals try (exfalso; omega)
    all_goals
      rename_i a3 c3 hc3 had3 _ _
      refine ⟨k + 1, (a3, c3, X ++ [(cX C k).q]), ds.set ((k : Int) + 1).toNat (C.xs.getD k clE.d, some ⟨q, 0, none⟩, 0, 0, false), qs ++ [(q, f, (C.xs.getD k clE.d).r)], by kernel_rfl, by (try dsimp only); (refine FEnt.ent ?_; (repeat (first | exact FEnt.rfl | (refine FEnt.at 0 rfl ?_; (try simp only [List.eraseIdx_cons_zero, List.eraseIdx_cons_succ, List.eraseIdx_zero, List.tail_cons])) | (refine FEnt.at 1 rfl ?_; (try simp only [List.eraseIdx_cons_zero, List.eraseIdx_cons_succ, List.eraseIdx_zero, List.tail_cons])) | (refine FEnt.at 2 rfl ?_; (try simp only [List.eraseIdx_cons_zero, List.eraseIdx_cons_succ, List.eraseIdx_zero, List.tail_cons])) | (refine FEnt.at 4 rfl ?_; (try simp only [List.eraseIdx_cons_zero, List.eraseIdx_cons_succ, List.eraseIdx_zero, List.tail_cons])) | (apply FEnt.bigS) | refine FEnt.drop ?_)); done), ⟨by omega, ⟨xs.symm, hc3, had3⟩, ⟨by rw [List.length_set]; exact d1, by rw [List.length_append, d2]; rfl, fun i hi => ?_⟩⟩, by omega⟩
      have e1 : ((k : Int) + 1).toNat = k + 1 := by omega
      rw [e1]
      by_cases e : i = k
      · subst e
        rw [getD_eqn d2, getD_set_eq (by omega)]
        exact ⟨rfl, rfl⟩
      · rw [getD_lt (by omega), getD_set_ne (by omega)]
        exact d3 i (by omega)
  · have e : k = C.xs.length := by omega
    subst e
    subst x1
    conv => whnf
    repeat' (first
      | (first | ((with_reducible refine Br.df ?_ ?_); (focus (first | assumption | omega)); conv => whnf) | ((with_reducible refine Br.ndf ?_ ?_); (focus (first | assumption | omega)); conv => whnf))
      | ((with_reducible refine Nd.mk ?_ ?_); (focus (first | omega | rfl | assumption | (simp; done))); conv => whnf)
      | ((first | refine St.hd (A := [_, _, _, _]) 0 rfl (by exact Nat.le_of_ble_eq_true rfl) rfl ?_ | refine St.hd (A := [_, _, _, _]) 1 rfl (by exact Nat.le_of_ble_eq_true rfl) rfl ?_); conv => whnf)
      | (first | ((refine Cl.isAt 3 rfl (how _) ?_); conv => whnf) | ((refine Cl.isAt 3 rfl (hfr _) ?_); conv => whnf) | ((with_reducible refine (?_ : Cl _ 71 _ _ _ _)); (refine Cl.exs (hqu _ _ _ (by ((repeat ((refine Rd.own 1 rfl ?_); (assumption))); done))) ?_; rintro ba _); conv => whnf)))
    all_goals try (exfalso; omega)
    all_goals exact Exs.of ((bs, ba, ds, qs) : Nat × Nat × List Dsk × List Qu) (by (try dsimp only); (refine FEnt.ent ?_; (repeat (first | exact FEnt.rfl | (refine FEnt.at 0 rfl ?_; (try simp only [List.eraseIdx_cons_zero, List.eraseIdx_cons_succ, List.eraseIdx_zero, List.tail_cons])) | (refine FEnt.at 1 rfl ?_; (try simp only [List.eraseIdx_cons_zero, List.eraseIdx_cons_succ, List.eraseIdx_zero, List.tail_cons])) | refine FEnt.drop ?_)); done)) ⟨d1, d2, d3⟩ rfl
end Go.Proofs
set_option linter.all false
namespace Go.Proofs
open Go.Eng
open Classical
set_option linter.unusedVariables false
set_option maxRecDepth 100000
set_option maxHeartbeats 4000000
theorem oneA_bd (s : ByteArray) (i : Nat) : 0 ≤ oneA s i ∧ oneA s i ≤ 255 := by
  unfold oneA
  have := u8_lt (sAt s i)
  omega
theorem twoA_bd (s : ByteArray) (i : Nat) : 0 ≤ twoA s i ∧ twoA s i ≤ 65535 := by
  unfold twoA
  have := u8_lt (sAt s i)
  have := u8_lt (sAt s (i + 1))
  omega
theorem winsA_bd (s : ByteArray) : ∀ (n i : Nat), ∀ x ∈ winsA s n i, slB x
  | 0, i => fun x hx => by cases hx
  | n + 1, i => fun x hx => by
    rcases List.mem_cons.1 hx with rfl | hx
    · have h1 := oneA_bd s i
      have h2 := twoA_bd s (i + 1)
      have h3 := twoA_bd s (i + 3)
      show (_ ≤ oneA s i ∧ oneA s i ≤ _) ∧ (_ ≤ twoA s (i + 1) ∧ twoA s (i + 1) ≤ _) ∧ (_ ≤ twoA s (i + 3) ∧ twoA s (i + 3) ≤ _)
      omega
    · exact winsA_bd s n _ x hx
theorem clisA_bd (s : ByteArray) : ∀ (n i : Nat), ∀ x ∈ clisA s n i, ClB x
  | 0, i => fun x hx => by cases hx
  | n + 1, i => fun x hx => by
    rcases List.mem_cons.1 hx with rfl | hx
    · have ho := fun j => oneA_bd s j
      have ht := fun j => twoA_bd s j
      refine ⟨?_, ?_, ?_, ?_, ?_, ?_, ?_, ?_, ?_, ?_⟩
      · have := ht i; show _ ≤ twoA s i ∧ twoA s i ≤ _; omega
      · have := ht (i + 2); show _ ≤ twoA s (i + 2) ∧ twoA s (i + 2) ≤ _; omega
      · have := ho (i + 4); show _ ≤ oneA s (i + 4) ∧ oneA s (i + 4) ≤ _; omega
      · have := ht (i + 5); show _ ≤ twoA s (i + 5) ∧ twoA s (i + 5) ≤ _; omega
      · have := ho (i + 7); show _ ≤ oneA s (i + 7) ∧ oneA s (i + 7) ≤ _; omega
      · have := ho (i + 8); show _ ≤ oneA s (i + 8) ∧ oneA s (i + 8) ≤ _; omega
      · have := ho (i + 9); show _ ≤ oneA s (i + 9) ∧ oneA s (i + 9) ≤ _; omega
      · have := ho (i + 10); show _ ≤ oneA s (i + 10) ∧ oneA s (i + 10) ≤ _; omega
      · have := ht (i + 11); show _ ≤ twoA s (i + 11) ∧ twoA s (i + 11) ≤ _; omega
      · have := ho (i + 13); show _ ≤ oneA s (i + 13) ∧ oneA s (i + 13) ≤ _; omega
    · exact clisA_bd s n _ x hx
theorem tb_bd {s : ByteArray} {y : Cfg} (h : TbIs s y) (hc : CapsOk y) : CfB y := by
  refine ⟨?_, ?_, ?_, ?_, hc.1.1, hc.2.1.1, hc.2.2.1⟩
  · have := twoA_bd (cutB s) 2
    rw [h.F]; exact ⟨by omega, by omega⟩
  · rw [h.w]; exact winsA_bd _ _ _
  · rw [h.q]; exact winsA_bd _ _ _
  · rw [h.x]; exact clisA_bd _ _ _
/-- the tables of an image, by themselves -/
def cfgS (s : ByteArray) : Cfg := ⟨twoA (cutB s) 2, none, 0, winsA (cutB s) (l1 (cutB s)) 5, none, 0, winsA (cutB s) (l2 (cutB s)) (6 + 5 * l1 (cutB s)), none, 0, clisA (cutB s) (l3 (cutB s)) (7 + 5 * l1 (cutB s) + 5 * l2 (cutB s))⟩
theorem right_of {C D : Cfg} (h1 : C.F = D.F) (h2 : C.ws = D.ws) (h3 : C.ss = D.ss) (h4 : C.xs = D.xs) (h : Right C) : Right D := by
  obtain ⟨F, wa, wc, W, sa, sc, S, ca, cc, X⟩ := C
  obtain ⟨F', wa', wc', W', sa', sc', S', ca', cc', X'⟩ := D
  dsimp only at h1 h2 h3 h4
  subst h1 h2 h3 h4
  exact ⟨h.f, h.r2, h.r3, h.r4, h.r5, h.r6, h.r7, h.r8, h.r9, h.r10⟩
theorem right_tb {s : ByteArray} {y : Cfg} (h : TbIs s y) : Right y ↔ Right (cfgS s) := ⟨right_of h.F h.w h.q h.x, right_of h.F.symm h.w.symm h.q.symm h.x.symm⟩
/-- whether an image boots -/
noncomputable def bootE (s : ByteArray) : Int := if imgE s = 0 then (if Right (cfgS s) then 0 else 11) else imgE s
theorem imgE_11 (s : ByteArray) : ¬ imgE s = 11 := by
  unfold imgE prsE
  repeat' split
  all_goals decide
/-- tables, and faults -/
abbrev Btl := Cfg × Option Addr × Nat × Nat
structure BtOk (s : ByteArray) (y : Btl) : Prop where
  ok : bootE s = 0 → TbIs s y.1 ∧ Right y.1
  caps : CapsOk y.1
  l : 0 < y.2.2.1 ↔ bootE s = 11
  lm : y.2.2.1 ≤ 200
abbrev Tryz.BtP (s : ByteArray) (L : List HP) := Exs (fun y : Btl => .tuple #[cfV y.1, .slice y.2.1 y.2.2.1 y.2.2.2, i64W (bootE s)]) (fun y => own slE 43 y.1.wa y.1.wc y.1.ws :: own slE 44 y.1.sa y.1.sc y.1.ss :: own clE 46 y.1.ca y.1.cc y.1.xs :: L) (BtOk s)
theorem Tryz.imgBoot (s : ByteArray) (L : List HP) (hs : s.size ≤ 1000000) : Con Tryz.prog 8 [.string s] L (Tryz.BtP s L) := by
  have hps := fun L => Tryz.imgParse s L hs
  unfold Tryz.PrsP at hps
  unfold Tryz.BtP
  by_cases h0 : imgE s = 0
  · rw [h0] at hps
    by_cases hR : Right (cfgS s)
    · have hb : bootE s = 0 := by unfold bootE; rw [if_pos h0, if_pos hR]
      rw [hb]
      refine con_of Tryz.tysOk Tryz.func8 rfl rfl ?_
      conv => whnf
      repeat' (first
        | (first | ((with_reducible refine Br.ndf ?_ ?_); (focus (first | assumption | omega)); conv => whnf) | ((with_reducible refine Br.no ?_ ?_); (focus (first | (simp; done) | (simp; omega))); conv => whnf))
        | ((with_reducible refine Nd.mk ?_ ?_); (focus (first | omega | rfl | assumption | (simp; done))); conv => whnf)
        | ((with_reducible refine Nc.go' (fun _ => ?_)); conv => whnf)
        | (first | (refine LdN.at 0 rfl (by first | exact Nat.le_of_ble_eq_true rfl | (simp; done)) ?_; conv => whnf) | (refine LdN.at 4 rfl (by first | exact Nat.le_of_ble_eq_true rfl | (simp; done)) ?_; conv => whnf))
        | (first | (refine St.at 0 rfl (by first | exact Nat.le_of_ble_eq_true rfl | (simp; done)) rfl ?_; conv => whnf) | (refine St.at 4 rfl (by first | exact Nat.le_of_ble_eq_true rfl | (simp; done)) rfl ?_; conv => whnf))
        | (first | ((with_reducible refine (?_ : Cl _ 20 _ _ _ _)); (refine Cl.exs (hps _) ?_; rintro y ⟨ht, ⟨w1, w2⟩, ⟨s1, s2⟩, c1, c2⟩); conv => whnf) | ((with_reducible refine (?_ : Cl _ 21 _ _ _ _)); (refine Cl.exs (Tryz.confFaults y _ (tb_bd (ht rfl) ⟨⟨w1, w2⟩, ⟨s1, s2⟩, c1, c2⟩) (by ((repeat ((refine Rd.own 1 rfl ?_); (assumption))); done)) (by ((repeat ((refine Rd.own 2 rfl ?_); (assumption))); done)) (by ((repeat ((refine Rd.own 3 rfl ?_); (assumption))); done))) ?_; rintro ⟨fa, fc, fl⟩ ⟨hfl, hfe⟩; obtain rfl := hfe.2 ((right_tb (ht rfl)).2 hR)); conv => whnf)))
      all_goals first | (exfalso; omega) | exact Exs.of ((y, none, 0, 0) : Btl) (by (try dsimp only); (refine FEnt.ent ?_; (repeat (first | exact FEnt.rfl | (refine FEnt.at 1 rfl ?_; (try simp only [List.eraseIdx_cons_zero, List.eraseIdx_cons_succ, List.eraseIdx_zero, List.tail_cons])) | refine FEnt.drop ?_)); done)) ⟨fun _ => ⟨ht rfl, (right_tb (ht rfl)).2 hR⟩, ⟨⟨w1, w2⟩, ⟨s1, s2⟩, c1, c2⟩, ⟨fun h => absurd h (Nat.lt_irrefl 0), fun h => absurd h (by rw [hb]; decide)⟩, Nat.zero_le _⟩ rfl
    · have hb : bootE s = 11 := by unfold bootE; rw [if_pos h0, if_neg hR]
      rw [hb]
      have hne : ∀ (y : Cfg) (fl : List Sp), TbIs s y → (fl = [] ↔ Right y) → 0 < fl.length := fun y fl ht he => by
        cases fl with
        | nil => exact absurd ((right_tb ht).1 (he.1 rfl)) hR
        | cons => exact Nat.succ_pos _
      refine con_of Tryz.tysOk Tryz.func8 rfl rfl ?_
      conv => whnf
      repeat' (first
        | (first | ((with_reducible refine Br.ndf ?_ ?_); (focus (first | assumption | omega)); conv => whnf) | ((with_reducible refine Br.yes ?_ ?_); (focus (first | (simp; done) | (simp; omega))); conv => whnf))
        | ((with_reducible refine Nd.mk ?_ ?_); (focus (first | omega | rfl | assumption | (simp; done))); conv => whnf)
        | ((with_reducible refine Nc.go' (fun _ => ?_)); conv => whnf)
        | (first | (refine LdN.at 0 rfl (by first | exact Nat.le_of_ble_eq_true rfl | (simp; done)) ?_; conv => whnf) | (refine LdN.at 4 rfl (by first | exact Nat.le_of_ble_eq_true rfl | (simp; done)) ?_; conv => whnf))
        | (first | (refine St.at 0 rfl (by first | exact Nat.le_of_ble_eq_true rfl | (simp; done)) rfl ?_; conv => whnf) | (refine St.at 4 rfl (by first | exact Nat.le_of_ble_eq_true rfl | (simp; done)) rfl ?_; conv => whnf))
        | (first | ((with_reducible refine (?_ : Cl _ 20 _ _ _ _)); (refine Cl.exs (hps _) ?_; rintro y ⟨ht, ⟨w1, w2⟩, ⟨s1, s2⟩, c1, c2⟩); conv => whnf) | ((with_reducible refine (?_ : Cl _ 21 _ _ _ _)); (refine Cl.exs (Tryz.confFaults y _ (tb_bd (ht rfl) ⟨⟨w1, w2⟩, ⟨s1, s2⟩, c1, c2⟩) (by ((repeat ((refine Rd.own 1 rfl ?_); (assumption))); done)) (by ((repeat ((refine Rd.own 2 rfl ?_); (assumption))); done)) (by ((repeat ((refine Rd.own 3 rfl ?_); (assumption))); done))) ?_; rintro ⟨fa, fc, fl⟩ ⟨hfl, hfe⟩; have hpos := hne y fl (ht rfl) hfe; dsimp only at hfl hpos ⊢); conv => whnf)))
      all_goals first | (exfalso; omega) | exact Exs.of ((noCfg, fa, fl.length, fc) : Btl) (by (try dsimp only); (refine FEnt.ent ?_; (repeat (first | exact FEnt.rfl | refine FEnt.nil ?_ | refine FEnt.drop ?_)); done)) ⟨fun h => absurd h (by rw [hb]; decide), capsNo, ⟨fun _ => hb, fun _ => hpos⟩, hfl⟩ rfl
  · have hb : bootE s = imgE s := by unfold bootE; rw [if_neg h0]
    have h11 := imgE_11 s
    have NO : BtOk s (noCfg, none, 0, 0) := ⟨fun h => absurd (hb.symm.trans h) h0, capsNo, ⟨fun h => absurd h (by decide), fun h => absurd (hb.symm.trans h) h11⟩, Nat.zero_le _⟩
    rw [hb]
    clear hb
    generalize imgE s = e at *
    refine con_of Tryz.tysOk Tryz.func8 rfl rfl ?_
    conv => whnf
    repeat' (first
      | ((with_reducible refine Br.ndt ?_ ?_); (focus (first | assumption | omega)); conv => whnf)
      | ((with_reducible refine Nd.mk ?_ ?_); (focus (first | omega | rfl | assumption | (simp; done))); conv => whnf)
      | ((with_reducible refine Nc.go' (fun _ => ?_)); conv => whnf)
      | (refine LdN.at 4 rfl (by first | exact Nat.le_of_ble_eq_true rfl | (simp; done)) ?_; conv => whnf)
      | (first | (refine St.at 0 rfl (by first | exact Nat.le_of_ble_eq_true rfl | (simp; done)) rfl ?_; conv => whnf) | (refine St.at 4 rfl (by first | exact Nat.le_of_ble_eq_true rfl | (simp; done)) rfl ?_; conv => whnf))
      | ((with_reducible refine (?_ : Cl _ 20 _ _ _ _)); (refine Cl.exs (hps _) ?_; rintro y ⟨ht, ⟨w1, w2⟩, ⟨s1, s2⟩, c1, c2⟩); conv => whnf))
    all_goals first | (exfalso; omega) | exact Exs.of ((noCfg, none, 0, 0) : Btl) (by (try dsimp only); (refine FEnt.ent ?_; (repeat (first | exact FEnt.rfl | refine FEnt.nil ?_ | refine FEnt.drop ?_)); done)) NO rfl
end Go.Proofs
