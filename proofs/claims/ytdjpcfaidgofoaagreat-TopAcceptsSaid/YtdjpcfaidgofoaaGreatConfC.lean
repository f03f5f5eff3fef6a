/- A machine's tables: all that is wrong: contracts. -/
import Derived.Test.YtdjpcfaidgofoaaGreatConfB
set_option linter.all false
namespace Go.Proofs
open Go.Eng
open Classical
set_option linter.unusedVariables false
set_option maxRecDepth 100000
set_option maxHeartbeats 1000000
/-- a list of faults, grown -/
abbrev Fl := Option Addr × Nat × List Sp
abbrev flV (y : Fl) : Value := .slice y.1 y.2.2.length y.2.1
abbrev flOk (y : Fl) (n : Nat) (fs : List Sp) (p : Prop) : Prop := (y.2.2.length ≤ fs.length + n ∧ (y.2.2 = [] ↔ fs = [] ∧ p)) ∧ y.2.2.length ≤ y.2.1 ∧ Ad y.1 y.2.2.length
theorem Tryz.confRows (why : Int) (n : Nat) (g : FuncId) (cs : List Value) (p : Nat → Prop) (a : Option Addr) (c : Nat) (fs : List Sp) (L : List HP) (hn : n ≤ 100) (hf : fs.length ≤ 1000) (hc : fs.length ≤ c) (had : Ad a fs.length)
    (hg : ∀ (i : Nat) (A : HP), i < n → Con Tryz.prog g (.int .i64 i :: cs) (A :: L) (Is (.bool (decide (p i))) (A :: L))) :
    Con Tryz.prog 58 [.slice a fs.length c, n64 why, .int .i64 n, .func (.func g) #[] cs.toArray] (own spE 61 a c fs :: L)
      (Exs flV (fun y => own spE 61 y.1 y.2.1 y.2.2 :: L) (fun y => flOk y n fs (∀ i, i < n → ¬ p i))) := by
  refine con_of Tryz.tysOk Tryz.func58 rfl rfl ?_
  conv => whnf
  refine Lp.by3 Tryz.tysOk [11, 0] (fun (k : Nat) (ys : List Sp) (x : Option Addr × Nat) => [.int .i64 k, .slice x.1 ys.length x.2]) (fun k ys x => own spE 61 x.1 x.2 ys :: L) (fun k ys x => k ≤ n ∧ ys.length ≤ fs.length + k ∧ (ys = [] ↔ fs = [] ∧ ∀ i, i < k → ¬ p i) ∧ ys.length ≤ x.2 ∧ Ad x.1 ys.length) (fun k ys x => n - k) (0) (fs) (((a, c) : Option Addr × Nat)) (by kernel_rfl) (by (exact Ent.rfl)) (⟨by omega, by omega, ⟨fun h => ⟨h, fun i hi => by omega⟩, fun h => h.1⟩, hc, had⟩) ?_
  rintro k ys ⟨a2, c2⟩ ⟨h1, h2, h3, h4, h5⟩
  conv => whnf
  repeat (intro _; conv => whnf)
  dsimp only at h4 h5
  by_cases hk : k < n
  · by_cases hp : p k
    · conv => whnf
      repeat' ((with_reducible refine Br.dt ?_ ?_); (focus (first | assumption | omega)); conv => whnf)
      rw [forceL_eq]
      refine Cl.is (Con.dt hp (hg k _ hk)) ?_
      conv => whnf
      repeat' (first
        | ((with_reducible refine Br.tt ?_); conv => whnf)
        | ((with_reducible refine Ar.i64 ?_ ?_); (focus omega); conv => whnf)
        | ((with_reducible refine Nc.go' (fun _ => ?_)); conv => whnf)
        | ((with_reducible refine (?_ : Sm _ (Builtin.append_ _ _ _) _ _)); (((with_reducible apply (Sm.appAt (E := spE) (et := 61) Tryz.tysOk 1)); (focus rfl)); (rotate_left; (focus (exact Rd.ptc 0 rfl [(_, _)] rfl)); rotate_right; (focus rfl)); (focus rfl); (focus rfl); (focus rfl); (focus rfl); (focus rfl); (focus rfl); (focus ((simp only [List.length_append, List.length_cons, List.length_nil]); omega)); (intro _ _ _ _); conv => whnf)))
      all_goals (rename_i a3 c3 hc3 had3; exact ⟨k + 1, ys ++ [((k : Int) + 1, why)], (a3, c3), by kernel_rfl, by (refine FEnt.ent ?_; (repeat (first | exact FEnt.rfl | (refine FEnt.at 0 rfl ?_; (try simp only [List.eraseIdx_cons_zero, List.eraseIdx_cons_succ, List.eraseIdx_zero, List.tail_cons])) | refine FEnt.drop ?_)); done), ⟨by omega, by simp only [List.length_append, List.length_cons, List.length_nil]; omega, ⟨fun h => absurd h (by simp), fun h => absurd hp (h.2 k (by omega))⟩, hc3, had3⟩, by omega⟩)
    · conv => whnf
      repeat' ((with_reducible refine Br.dt ?_ ?_); (focus (first | assumption | omega)); conv => whnf)
      rw [forceL_eq]
      refine Cl.is (Con.df hp (hg k _ hk)) ?_
      conv => whnf
      repeat' (first
        | ((with_reducible refine Br.ff ?_); conv => whnf)
        | ((with_reducible refine Ar.i64 ?_ ?_); (focus omega); conv => whnf))
      all_goals exact ⟨k + 1, ys, (a2, c2), by kernel_rfl, by (exact Ent.rfl), ⟨by omega, by omega, ⟨fun h => ⟨(h3.1 h).1, lt_step (h3.1 h).2 hp⟩, fun h => h3.2 ⟨h.1, fun i hi => h.2 i (by omega)⟩⟩, h4, h5⟩, by omega⟩
  · have e : k = n := by omega
    subst e
    conv => whnf
    repeat' ((with_reducible refine Br.df ?_ ?_); (focus (first | assumption | omega)); conv => whnf)
    all_goals exact Exs.of ((a2, c2, ys) : Fl) (by (try dsimp only); (exact Ent.rfl)) ⟨⟨h2, h3⟩, h4, h5⟩ rfl
theorem not_dec {p q : Prop} [Decidable p] [Decidable q] (h : q ↔ ¬ p) : (!decide p) = decide q := by
  by_cases hp : p
  · rw [decide_eq_true hp, decide_eq_false (fun hq => h.1 hq hp)]; rfl
  · rw [decide_eq_false hp, decide_eq_true (h.2 hp)]; rfl
/-! the clients' rows -/
theorem Tryz.confCl1 (C : Cfg) (i b : Nat) (A : HP) (L : List HP) (hB : CfB C) (hi : i < C.xs.length) (hr : Rd clE L C.ca C.xs) :
    Con Tryz.prog 110 [.int .i64 i, .pointer (some ⟨b, 0, none⟩)] (A :: ptc b 28 (cfC C) :: L) (Is (.bool (decide (b2 C i))) (A :: ptc b 28 (cfC C) :: L)) := by
  have hc := fun L => Tryz.confClient (cX C i) L (hB.c _ (getD_mem hi))
  refine con_of Tryz.tysOk Tryz.func110 rfl rfl ?_
  conv => whnf
  repeat' (first
    | ((with_reducible refine Ix.ad ?_ ?_ ?_); (focus (exact Rd.ad (by assumption))); (focus (omega)); conv => whnf)
    | (refine Ld.at 1 rfl rfl ?_; conv => whnf)
    | ((with_reducible apply LdN.rdk); (focus ((repeat (first | assumption | apply Rd.cons)); done)); (focus rfl); (focus rfl); (focus (omega)); conv => whnf)
    | ((with_reducible refine Cl.is (hc _) ?_); conv => whnf))
  all_goals exact Is.ent (by (exact Ent.rfl)) (Is.bool (not_dec Iff.rfl))
theorem Tryz.confCl21 (x y : Cli) (b : Nat) (L : List HP) (hx : goodC x) (hy : ClB y) :
    Con Tryz.prog 114 [clV y, .pointer (some ⟨b, 0, none⟩)] (ptc b 46 (clC x) :: L) (Is (.bool (decide (goodC y ∧ sameC x y))) (ptc b 46 (clC x) :: L)) := by
  have hc := fun L => Tryz.confClient y L hy
  by_cases hg : goodC y
  · have hs := fun L => Tryz.confShare x y L hx hg
    refine con_of Tryz.tysOk Tryz.func114 rfl rfl ?_
    conv => whnf
    repeat' (first
      | ((with_reducible refine Br.tt ?_); conv => whnf)
      | ((with_reducible refine Nc.go' (fun _ => ?_)); conv => whnf)
      | (first | (refine LdN.at 0 rfl (by first | exact Nat.le_of_ble_eq_true rfl | (simp; done)) ?_; conv => whnf) | (refine LdN.at 1 rfl (by first | exact Nat.le_of_ble_eq_true rfl | (simp; done)) ?_; conv => whnf))
      | (first | ((with_reducible refine Cl.is (Con.dt hg (hc _)) ?_); conv => whnf) | ((with_reducible refine Cl.is (hs _) ?_); conv => whnf)))
    all_goals exact Is.ent (by (refine FEnt.ent ?_; (repeat (first | exact FEnt.rfl | (refine FEnt.at 1 rfl ?_; (try simp only [List.eraseIdx_cons_zero, List.eraseIdx_cons_succ, List.eraseIdx_zero, List.tail_cons])) | refine FEnt.drop ?_)); done)) (Is.dec ⟨fun h => ⟨hg, h⟩, fun h => h.2⟩)
  · refine con_of Tryz.tysOk Tryz.func114 rfl rfl ?_
    conv => whnf
    repeat' (first
      | ((with_reducible refine Br.ff ?_); conv => whnf)
      | ((with_reducible refine Nc.go' (fun _ => ?_)); conv => whnf)
      | (refine LdN.at 0 rfl (by first | exact Nat.le_of_ble_eq_true rfl | (simp; done)) ?_; conv => whnf)
      | ((with_reducible refine Cl.is (Con.df hg (hc _)) ?_); conv => whnf))
    all_goals exact Is.ent (by (refine FEnt.ent ?_; (repeat (first | exact FEnt.rfl | (refine FEnt.at 1 rfl ?_; (try simp only [List.eraseIdx_cons_zero, List.eraseIdx_cons_succ, List.eraseIdx_zero, List.tail_cons])) | refine FEnt.drop ?_)); done)) (Is.ff (p := goodC y ∧ sameC x y) (fun h => hg h.1))
theorem Tryz.confCl2 (C : Cfg) (i b : Nat) (A : HP) (L : List HP) (hB : CfB C) (hF : frF C) (hi : i < C.xs.length) (hr : Rd clE L C.ca C.xs) :
    Con Tryz.prog 112 [.int .i64 i, .pointer (some ⟨b, 0, none⟩)] (A :: ptc b 28 (cfC C) :: L) (Is (.bool (decide (b3 C i))) (A :: ptc b 28 (cfC C) :: L)) := by
  have hc := fun L => Tryz.confClient (cX C i) L (hB.c _ (getD_mem hi))
  have hcc := hB.cc
  by_cases hg : goodC (cX C i)
  · have hex := ex_take (d := clE.d) (xs := C.xs) (i := i) (p := fun y => decide (goodC y ∧ sameC (cX C i) y)) (q := fun y => goodC y ∧ sameC (cX C i) y) (by omega) (fun x => decide_eq_true_iff)
    have hct := fun b4 L (h : Rd clE L C.ca C.xs) => Tryz.clContains C.ca C.cc (C.xs.take i) (ptc b4 46 (clC (cX C i)) :: L) (by have := hF.2.2; rw [List.length_take]; omega) (h.take i).cons 114 [.pointer (some ⟨b4, 0, none⟩)] (fun y => decide (goodC y ∧ sameC (cX C i) y)) (fun y hy => Tryz.confCl21 (cX C i) y b4 L hg (hB.c y (List.mem_of_mem_take hy)))
    refine con_of Tryz.tysOk Tryz.func112 rfl rfl ?_
    conv => whnf
    repeat' (first
      | ((with_reducible refine Br.tt ?_); conv => whnf)
      | ((with_reducible refine Nd.mk ?_ ?_); (focus (first | omega | rfl | assumption | (simp; done))); conv => whnf)
      | ((with_reducible refine Nc.go' (fun _ => ?_)); conv => whnf)
      | ((with_reducible refine Ix.ad ?_ ?_ ?_); (focus (exact Rd.ad (by assumption))); (focus (omega)); conv => whnf)
      | ((with_reducible refine Sub.pre ?_ rfl ?_ ?_ ?_); (focus (first | exact Or.inl rfl | exact Or.inr ⟨_, rfl⟩)); (focus (omega)); (focus (omega)); conv => whnf)
      | (first | (refine Ld.at 1 rfl rfl ?_; conv => whnf) | (refine Ld.at 2 rfl rfl ?_; conv => whnf))
      | (first | ((with_reducible apply LdN.rdk); (focus ((repeat (first | assumption | apply Rd.cons)); done)); (focus rfl); (focus rfl); (focus (omega)); conv => whnf) | (refine LdN.at 0 rfl (by first | exact Nat.le_of_ble_eq_true rfl | (simp; done)) ?_; conv => whnf))
      | (refine St.at 0 rfl (by first | exact Nat.le_of_ble_eq_true rfl | (simp; done)) rfl ?_; conv => whnf)
      | (first | ((with_reducible refine Cl.is (Con.dt hg (hc _)) ?_); conv => whnf) | ((with_reducible refine (?_ : Cl _ 113 _ _ _ _)); (refine Cl.is (hct _ _ (by ((repeat (first | assumption | apply Rd.cons)); done))) ?_); conv => whnf)))
    all_goals exact Is.ent (by (refine FEnt.ent ?_; (repeat (first | exact FEnt.rfl | (refine FEnt.at 1 rfl ?_; (try simp only [List.eraseIdx_cons_zero, List.eraseIdx_cons_succ, List.eraseIdx_zero, List.tail_cons])) | refine FEnt.drop ?_)); done)) (Is.dec ⟨fun h => ⟨hg, hex.1 h⟩, fun h => hex.2 h.2⟩)
  · refine con_of Tryz.tysOk Tryz.func112 rfl rfl ?_
    conv => whnf
    repeat' (first
      | ((with_reducible refine Br.ff ?_); conv => whnf)
      | ((with_reducible refine Nd.mk ?_ ?_); (focus (first | omega | rfl | assumption | (simp; done))); conv => whnf)
      | ((with_reducible refine Nc.go' (fun _ => ?_)); conv => whnf)
      | ((with_reducible refine Ix.ad ?_ ?_ ?_); (focus (exact Rd.ad (by assumption))); (focus (omega)); conv => whnf)
      | (refine Ld.at 1 rfl rfl ?_; conv => whnf)
      | (first | ((with_reducible apply LdN.rdk); (focus ((repeat (first | assumption | apply Rd.cons)); done)); (focus rfl); (focus rfl); (focus (omega)); conv => whnf) | (refine LdN.at 0 rfl (by first | exact Nat.le_of_ble_eq_true rfl | (simp; done)) ?_; conv => whnf))
      | (refine St.at 0 rfl (by first | exact Nat.le_of_ble_eq_true rfl | (simp; done)) rfl ?_; conv => whnf)
      | ((with_reducible refine Cl.is (Con.df hg (hc _)) ?_); conv => whnf))
    all_goals exact Is.ent (by (refine FEnt.ent ?_; (repeat (first | exact FEnt.rfl | (refine FEnt.at 1 rfl ?_; (try simp only [List.eraseIdx_cons_zero, List.eraseIdx_cons_succ, List.eraseIdx_zero, List.tail_cons])) | refine FEnt.drop ?_)); done)) (Is.ff (p := b3 C i) (fun h => hg (And.left h)))
theorem Tryz.confClients (C : Cfg) (a : Option Addr) (c : Nat) (fs : List Sp) (L : List HP) (hB : CfB C) (hF : frF C) (hf : fs.length ≤ 500) (hc : fs.length ≤ c) (had : Ad a fs.length) (hr : Rd clE L C.ca C.xs) :
    Con Tryz.prog 57 [.slice a fs.length c, cfV C] (own spE 61 a c fs :: L)
      (Exs flV (fun y => own spE 61 y.1 y.2.1 y.2.2 :: L) (fun y => flOk y 16 fs ((∀ i, i < C.xs.length → ¬ b2 C i) ∧ ∀ i, i < C.xs.length → ¬ b3 C i))) := by
  have h1 := fun b a c fs (hf : fs.length ≤ 1000) hc had => Tryz.confRows 2 C.xs.length 110 [.pointer (some ⟨b, 0, none⟩)] (b2 C) a c fs (ptc b 28 (cfC C) :: L) (by omega) hf hc had (fun i A hi => Tryz.confCl1 C i b A L hB hi hr)
  have h2 := fun b a c fs (hf : fs.length ≤ 1000) hc had => Tryz.confRows 3 C.xs.length 112 [.pointer (some ⟨b, 0, none⟩)] (b3 C) a c fs (ptc b 28 (cfC C) :: L) (by omega) hf hc had (fun i A hi => Tryz.confCl2 C i b A L hB hF hi hr)
  refine con_of Tryz.tysOk Tryz.func57 rfl rfl ?_
  conv => whnf
  repeat' (first
    | ((with_reducible refine Nc.go' (fun _ => ?_)); conv => whnf)
    | (refine Ld.at 0 rfl rfl ?_; conv => whnf)
    | (first | (apply (Cl.pre [own spE 61 _ _ _, ptc _ _ _]); (focus ((repeat (first | exact FEnt.rfl | (refine FEnt.at 1 rfl ?_; (try simp only [List.eraseIdx_cons_zero, List.eraseIdx_cons_succ, List.eraseIdx_zero, List.tail_cons])))); done)); refine Cl.exs (h1 _ _ _ _ (by omega) hc had) ?_; rintro ⟨a2, c2, f2⟩ ⟨⟨hl2, he2⟩, hc2, had2⟩; conv => whnf) | (apply (Cl.pre [own spE 61 _ _ _, ptc _ _ _]); (focus ((repeat (exact FEnt.rfl)); done)); refine Cl.exs (h2 _ _ _ _ (by dsimp only at *; omega) hc2 had2) ?_; rintro ⟨a3, c3, f3⟩ ⟨⟨hl3, he3⟩, hc3, had3⟩; conv => whnf)))
  all_goals (dsimp only at *; exact Exs.of ((a3, c3, f3) : Fl) (by (try dsimp only); (refine FEnt.ent ?_; (repeat (first | exact FEnt.rfl | (refine FEnt.at 0 rfl ?_; (try simp only [List.eraseIdx_cons_zero, List.eraseIdx_cons_succ, List.eraseIdx_zero, List.tail_cons])) | refine FEnt.drop ?_)); done)) ⟨⟨by (try dsimp only); omega, by rw [he3, he2, and_assoc]⟩, hc3, had3⟩ rfl)
/-! the slots -/
theorem Tryz.confSl1 (C : Cfg) (i b : Nat) (A : HP) (L : List HP) (hB : CfB C) (hi : i < C.ss.length) (hr : Rd slE L C.sa C.ss) :
    Con Tryz.prog 96 [.int .i64 i, .pointer (some ⟨b, 0, none⟩)] (A :: ptc b 28 (cfC C) :: L) (Is (.bool (decide (b8 C i))) (A :: ptc b 28 (cfC C) :: L)) := by
  have hc := fun L => Tryz.confSlot C (cS C i).1 (cS C i).2.1 (cS C i).2.2 L hB.F.2
  refine con_of Tryz.tysOk Tryz.func96 rfl rfl ?_
  conv => whnf
  repeat' (first
    | ((with_reducible refine Ix.ad ?_ ?_ ?_); (focus (exact Rd.ad (by assumption))); (focus (omega)); conv => whnf)
    | (refine Ld.at 1 rfl rfl ?_; conv => whnf)
    | (first | ((with_reducible apply LdN.rdk); (focus ((repeat (first | assumption | apply Rd.cons)); done)); (focus rfl); (focus rfl); (focus (omega)); conv => whnf) | (refine LdN.at 1 rfl (by first | exact Nat.le_of_ble_eq_true rfl | (simp; done)) ?_; conv => whnf))
    | ((with_reducible refine Dr.by (id := 1) Tryz.tysOk rfl [(1, 0), (3, 0), (0, 1), (2, 1), (4, 0), (5, 1), (6, 1), (7, 0), (8, 0)] ?_ ?_); (focus kernel_rfl); conv => whnf)
    | ((with_reducible refine CD.is (fun M => hc _) ?_); conv => whnf))
  all_goals exact Is.ent (by (exact Ent.rfl)) (Is.bool (not_dec Iff.rfl))
theorem Tryz.confSl21 (x y : Slt) (b : Nat) (L : List HP) :
    Con Tryz.prog 100 [slV y.1 y.2.1 y.2.2, .pointer (some ⟨b, 0, none⟩)] (ptc b 44 [n64 x.1, n64 x.2.1, n64 x.2.2] :: L) (Is (.bool (decide (meetW x y))) (ptc b 44 [n64 x.1, n64 x.2.1, n64 x.2.2] :: L)) := by
  refine con_of Tryz.tysOk Tryz.func100 rfl rfl ?_
  conv => whnf
  repeat' (first
    | ((with_reducible refine Nd.mk ?_ ?_); (focus (first | omega | rfl | assumption | (simp; done))); conv => whnf)
    | ((with_reducible refine Nc.go' (fun _ => ?_)); conv => whnf)
    | (first | (refine Ld.at 0 rfl rfl ?_; conv => whnf) | (refine Ld.at 1 rfl rfl ?_; conv => whnf))
    | (refine St.at 0 rfl (by first | exact Nat.le_of_ble_eq_true rfl | (simp; done)) rfl ?_; conv => whnf)
    | ((with_reducible refine Cl.is (Tryz.spanMeet _ _ _ _ _) ?_); conv => whnf))
  all_goals (refine Is.ent ?_ ?_; (focus (refine FEnt.ent ?_; (repeat (first | exact FEnt.rfl | (refine FEnt.at 2 rfl ?_; (try simp only [List.eraseIdx_cons_zero, List.eraseIdx_cons_succ, List.eraseIdx_zero, List.tail_cons])) | refine FEnt.drop ?_)); done)); (exact Is.rfl))
theorem Tryz.confSl2 (C : Cfg) (i b : Nat) (A : HP) (L : List HP) (hB : CfB C) (hF : frF C) (hi : i < C.ss.length) (hr : Rd slE L C.sa C.ss) :
    Con Tryz.prog 98 [.int .i64 i, .pointer (some ⟨b, 0, none⟩)] (A :: ptc b 28 (cfC C) :: L) (Is (.bool (decide (b9 C i))) (A :: ptc b 28 (cfC C) :: L)) := by
  have hcc := hB.sc
  have hex := ex_take (d := slE.d) (xs := C.ss) (i := i) (p := fun y => decide (meetW (cS C i) y)) (q := fun y => meetW (cS C i) y) (by omega) (fun x => decide_eq_true_iff)
  have hct := fun b4 L (h : Rd slE L C.sa C.ss) => Tryz.slContains C.sa C.sc (C.ss.take i) (ptc b4 44 [n64 (cS C i).1, n64 (cS C i).2.1, n64 (cS C i).2.2] :: L) (by have := hF.2.2; rw [List.length_take]; omega) (h.take i).cons 100 [.pointer (some ⟨b4, 0, none⟩)] (fun y => decide (meetW (cS C i) y)) (fun o f t => Tryz.confSl21 (cS C i) (o, f, t) b4 L)
  refine con_of Tryz.tysOk Tryz.func98 rfl rfl ?_
  conv => whnf
  repeat' (first
    | ((with_reducible refine Nd.mk ?_ ?_); (focus (first | omega | rfl | assumption | (simp; done))); conv => whnf)
    | ((with_reducible refine Nc.go' (fun _ => ?_)); conv => whnf)
    | ((with_reducible refine Ix.ad ?_ ?_ ?_); (focus (exact Rd.ad (by assumption))); (focus (omega)); conv => whnf)
    | ((with_reducible refine Sub.pre ?_ rfl ?_ ?_ ?_); (focus (first | exact Or.inl rfl | exact Or.inr ⟨_, rfl⟩)); (focus (omega)); (focus (omega)); conv => whnf)
    | (first | (refine Ld.at 1 rfl rfl ?_; conv => whnf) | (refine Ld.at 2 rfl rfl ?_; conv => whnf))
    | ((with_reducible apply LdN.rdk); (focus ((repeat (first | assumption | apply Rd.cons)); done)); (focus rfl); (focus rfl); (focus (omega)); conv => whnf)
    | (refine St.at 0 rfl (by first | exact Nat.le_of_ble_eq_true rfl | (simp; done)) rfl ?_; conv => whnf)
    | ((with_reducible refine (?_ : Cl _ 99 _ _ _ _)); (refine Cl.is (hct _ _ (by ((repeat (first | assumption | apply Rd.cons)); done))) ?_); conv => whnf))
  all_goals exact Is.ent (by (refine FEnt.ent ?_; (repeat (first | exact FEnt.rfl | (refine FEnt.at 1 rfl ?_; (try simp only [List.eraseIdx_cons_zero, List.eraseIdx_cons_succ, List.eraseIdx_zero, List.tail_cons])) | refine FEnt.drop ?_)); done)) (Is.dec hex)
theorem Tryz.confSlots (C : Cfg) (a : Option Addr) (c : Nat) (fs : List Sp) (L : List HP) (hB : CfB C) (hF : frF C) (hf : fs.length ≤ 500) (hc : fs.length ≤ c) (had : Ad a fs.length) (hr : Rd slE L C.sa C.ss) :
    Con Tryz.prog 55 [.slice a fs.length c, cfV C] (own spE 61 a c fs :: L)
      (Exs flV (fun y => own spE 61 y.1 y.2.1 y.2.2 :: L) (fun y => flOk y 64 fs ((∀ i, i < C.ss.length → ¬ b8 C i) ∧ ∀ i, i < C.ss.length → ¬ b9 C i))) := by
  have h1 := fun b a c fs (hf : fs.length ≤ 1000) hc had => Tryz.confRows 8 C.ss.length 96 [.pointer (some ⟨b, 0, none⟩)] (b8 C) a c fs (ptc b 28 (cfC C) :: L) (by omega) hf hc had (fun i A hi => Tryz.confSl1 C i b A L hB hi hr)
  have h2 := fun b a c fs (hf : fs.length ≤ 1000) hc had => Tryz.confRows 9 C.ss.length 98 [.pointer (some ⟨b, 0, none⟩)] (b9 C) a c fs (ptc b 28 (cfC C) :: L) (by omega) hf hc had (fun i A hi => Tryz.confSl2 C i b A L hB hF hi hr)
  refine con_of Tryz.tysOk Tryz.func55 rfl rfl ?_
  conv => whnf
  repeat' (first
    | ((with_reducible refine Nc.go' (fun _ => ?_)); conv => whnf)
    | (refine Ld.at 0 rfl rfl ?_; conv => whnf)
    | (first | (apply (Cl.pre [own spE 61 _ _ _, ptc _ _ _]); (focus ((repeat (first | exact FEnt.rfl | (refine FEnt.at 1 rfl ?_; (try simp only [List.eraseIdx_cons_zero, List.eraseIdx_cons_succ, List.eraseIdx_zero, List.tail_cons])))); done)); refine Cl.exs (h1 _ _ _ _ (by omega) hc had) ?_; rintro ⟨a2, c2, f2⟩ ⟨⟨hl2, he2⟩, hc2, had2⟩; conv => whnf) | (apply (Cl.pre [own spE 61 _ _ _, ptc _ _ _]); (focus ((repeat (exact FEnt.rfl)); done)); refine Cl.exs (h2 _ _ _ _ (by dsimp only at *; omega) hc2 had2) ?_; rintro ⟨a3, c3, f3⟩ ⟨⟨hl3, he3⟩, hc3, had3⟩; conv => whnf)))
  all_goals (dsimp only at *; exact Exs.of ((a3, c3, f3) : Fl) (by (try dsimp only); (refine FEnt.ent ?_; (repeat (first | exact FEnt.rfl | (refine FEnt.at 0 rfl ?_; (try simp only [List.eraseIdx_cons_zero, List.eraseIdx_cons_succ, List.eraseIdx_zero, List.tail_cons])) | refine FEnt.drop ?_)); done)) ⟨⟨by (try dsimp only); omega, by rw [he3, he2, and_assoc]⟩, hc3, had3⟩ rfl)
end Go.Proofs
