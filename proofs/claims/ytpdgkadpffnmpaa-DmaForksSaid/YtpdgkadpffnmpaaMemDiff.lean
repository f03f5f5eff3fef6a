/- Where memories are unlike; forks. -/
import Derived.Test.YtpdgkadpffnmpaaRefMem
import Derived.Test.YtpdgkadpffnmpaaSpanG
set_option linter.all false
namespace Go.Proofs
open Go.Eng
set_option linter.unusedVariables false
set_option maxRecDepth 100000
set_option maxHeartbeats 600000
theorem lay_all {α : Type} {xs ys : List α} (h : ys.length = xs.length) : lay xs 0 ys = ys := by
  unfold lay
  rw [List.drop_of_length_le (by omega)]
  simp
theorem Try.memFork (b : Nat) (xs : List UInt8) (L : List HP) (hl : xs.length ≤ 16384) :
    Con Try.prog 19 [pV b] (Try.memH b xs :: L) (Exs pV (fun b' => Try.memH b' xs :: Try.memH b xs :: L) (fun _ => True)) := by
  refine Try.memOpen fun a c hc had => ?_
  have hz : (zeros (min (max (xs.length : Int) 0) 16384).toNat).length = xs.length := by rw [List.length_replicate]; omega
  have hlay : lay (zeros (min (max (xs.length : Int) 0) 16384).toNat) 0 xs = xs := lay_all hz.symm
  refine con_of Try.tysOk Try.func19 rfl rfl ?_
  conv => whnf
  repeat' (first
    | ((with_reducible refine Br.sn ?_); conv => whnf)
    | (first | (refine Ld.at 0 rfl rfl ?_; conv => whnf) | (refine Ld.at 2 rfl rfl ?_; conv => whnf))
    | ((with_reducible refine Dr.by (id := 4) Try.tysOk rfl [(0, 0), (1, 0), (2, 0), (4, 0), (5, 0), (6, 0), (3, 1), (7, 1), (8, 3)] ?_ ?_); (focus kernel_rfl); conv => whnf)
    | ((with_reducible refine (?_ : Sm _ (Builtin.copy_ _ _ _) _ _)); ((apply (Sm.cpB Try.tysOk 1)); (focus rfl); (focus ((repeat ((refine Rd.own 3 rfl ?_); (assumption))); done)); (focus rfl); (focus rfl); (focus rfl); (focus rfl); (focus rfl); (focus rfl); (focus (omega)); conv => whnf))
    | ((refine Cl.exs (Try.memNewO _ _ ⟨by omega, by omega⟩) (fun x _ => ?_); obtain ⟨b2, b3⟩ := x); conv => whnf))
  all_goals (rw [hlay]; refine Exs.of b2 ?_ trivial rfl; (refine FEnt.ent ?_; (repeat (first | exact FEnt.rfl | (refine FEnt.at 0 rfl ?_; (try simp only [List.eraseIdx_cons_zero, List.eraseIdx_cons_succ, List.eraseIdx_zero, List.tail_cons])) | (apply Try.memShut) | rfl | assumption | omega | exact fun _ => rfl)); done))
theorem Try.memForkNil (L : List HP) : Con Try.prog 19 [.pointer none] L (Is (.pointer none) L) := by
  refine con_of Try.tysOk Try.func19 rfl rfl ?_
  conv => whnf
  repeat' ((with_reducible refine Br.nn ?_); conv => whnf)
  all_goals (refine Is.ent ?_ ?_; (focus (exact Ent.rfl)); (exact Is.rfl))
/-- are two rows unlike at a place? -/
def unl {α : Type} (d : α) (xs ys : List α) (m : Int) : Prop := ¬ (m < xs.length ∧ m < ys.length ∧ xs.getD m.toNat d = ys.getD m.toNat d)
/-- the places of which something is so, one by one -/
noncomputable def sing (p : Int → Prop) : Nat → List Sp
  | 0 => []
  | k + 1 => by classical exact if p k then sing p k ++ [((k : Int), (k : Int) + 1)] else sing p k
theorem sing_yes {p : Int → Prop} {k : Nat} (h : p k) : sing p (k + 1) = sing p k ++ [((k : Int), (k : Int) + 1)] := by simp [sing, h]
theorem sing_no {p : Int → Prop} {k : Nat} (h : ¬ p k) : sing p (k + 1) = sing p k := by simp [sing, h]
theorem sing_len (p : Int → Prop) : ∀ k, (sing p k).length ≤ k
  | 0 => Nat.le_refl _
  | k + 1 => by
    have := sing_len p k
    by_cases h : p k
    · rw [sing_yes h, List.length_append]; simp; omega
    · rw [sing_no h]; omega
theorem sing_in (p : Int → Prop) (m : Int) : ∀ k : Nat, inS (sing p k) m ↔ 0 ≤ m ∧ m < k ∧ p m
  | 0 => ⟨fun h => (inS_nil h).elim, fun h => by omega⟩
  | k + 1 => by
    have ih := sing_in p m k
    by_cases h : p k
    · rw [sing_yes h, inS_append, inS_one, ih]
      constructor
      · rintro (⟨h1, h2, h3⟩ | ⟨h1, h2, h3⟩)
        · exact ⟨h1, by omega, h3⟩
        · have : m = k := by simp at h2 h3; omega
          subst this
          exact ⟨by omega, by omega, h⟩
      · rintro ⟨h1, h2, h3⟩
        by_cases e : m < k
        · exact .inl ⟨h1, e, h3⟩
        · exact .inr ⟨by simp, by simp; omega, by simp; omega⟩
    · rw [sing_no h, ih]
      constructor
      · rintro ⟨h1, h2, h3⟩; exact ⟨h1, by omega, h3⟩
      · rintro ⟨h1, h2, h3⟩
        refine ⟨h1, ?_, h3⟩
        by_cases e : m = k
        · subst e; exact (h h3).elim
        · omega
theorem sing_merge (p : Int → Prop) (n : Nat) : mergeF (sing p n) = runF n p := by
  refine mergeF_eq runs_ok.canon fun m => ?_
  rw [runs_ok.same, sing_in]
theorem Try.memDiff (b b' : Nat) (xs ys : List UInt8) (L : List HP) (hx : xs.length ≤ 16384) (hy : ys.length ≤ 16384) :
    Con Try.prog 21 [pV b, pV b'] (Try.memH b xs :: Try.memH b' ys :: L) (New spE 59 (runF (max xs.length ys.length : Nat) (unl 0 xs ys)) (Try.memH b xs :: Try.memH b' ys :: L)) := by
  refine con_of Try.tysOk Try.func21 rfl rfl ?_
  conv => whnf
  repeat' ((first | refine Cl.isAt 0 rfl (Try.memSize _ _ _) ?_ | refine Cl.isAt 1 rfl (Try.memSize _ _ _) ?_); conv => whnf)
  conv => whnf
  refine Lp.by4 Try.tysOk [16, 5] (fun (k : Nat) (out : List Sp) (a2 : Option Addr) (c2 : Nat) => [.int .i64 k, .slice a2 out.length c2]) (fun k out a2 c2 => own spE 59 a2 c2 out :: Try.memH b xs :: Try.memH b' ys :: L) (fun k out a2 c2 => k ≤ max xs.length ys.length ∧ out = sing (unl 0 xs ys) k ∧ Ad a2 out.length ∧ out.length ≤ c2) (fun k out a2 c2 => max xs.length ys.length - k) (0) ([]) (none) (0) (by kernel_rfl) (by (exact Ent.nil)) (⟨by omega, rfl, fun h => (h rfl).elim, by simp⟩) ?_
  rintro k out a2 c2 ⟨h1, h2, h3, h4⟩
  conv => whnf
  repeat (intro _; conv => whnf)
  have hol := sing_len (unl 0 xs ys) k
  rw [← h2] at hol
  by_cases hk : k < max xs.length ys.length
  · by_cases hp : unl 0 xs ys k
    · have hz := sing_yes hp
      rw [← h2] at hz
      by_cases g1 : k < xs.length
      · by_cases g2 : k < ys.length
        · have hne : ¬ bAt xs k = bAt ys k := fun e => hp ⟨by omega, by omega, by rw [Int.toNat_natCast]; exact UInt8.toNat_inj.1 (Int.ofNat_inj.1 e)⟩
          conv => whnf
          repeat' (first
            | (first | ((with_reducible refine Br.tt ?_); conv => whnf) | ((with_reducible refine Br.dt ?_ ?_); (focus (first | assumption | omega)); conv => whnf) | ((with_reducible refine Br.ndt ?_ ?_); (focus (first | assumption | omega)); conv => whnf))
            | ((with_reducible refine Ar.i64 ?_ ?_); (focus omega); conv => whnf)
            | ((with_reducible refine Nd.mk ?_ ?_); (focus (first | omega | rfl | assumption | (simp; done))); conv => whnf)
            | ((with_reducible refine Nc.go' (fun b => ?_)); conv => whnf)
            | ((first | refine Cl.isAt 1 rfl (Try.memGet _ _ k _ _ (by omega) rfl (by omega)) ?_ | refine Cl.isAt 2 rfl (Try.memGet _ _ k _ _ (by omega) rfl (by omega)) ?_); conv => whnf)
            | ((with_reducible refine (?_ : Sm _ (Builtin.append_ _ _ _) _ _)); (((with_reducible apply (Sm.appAt (E := spE) (et := 59) Try.tysOk 1)); (focus rfl)); (rotate_left; (focus (exact Rd.ptc 0 rfl [(_, _)] rfl)); rotate_right; (focus rfl)); (focus rfl); (focus rfl); (focus rfl); (focus rfl); (focus rfl); (focus rfl); (focus ((simp only [List.length_append, List.length_cons, List.length_nil]); omega)); (intro _ _ _ _); conv => whnf)))
          rename_i a3 c3 hc3 had3
          refine ⟨k + 1, _, a3, c3, by kernel_rfl, by (refine FEnt.ent ?_; (repeat (first | exact FEnt.rfl | (refine FEnt.at 0 rfl ?_; (try simp only [List.eraseIdx_cons_zero, List.eraseIdx_cons_succ, List.eraseIdx_zero, List.tail_cons])) | (refine FEnt.at 1 rfl ?_; (try simp only [List.eraseIdx_cons_zero, List.eraseIdx_cons_succ, List.eraseIdx_zero, List.tail_cons])) | refine FEnt.drop ?_)); done), ⟨by omega, hz.symm, had3, hc3⟩, by omega⟩
        · conv => whnf
          repeat' (first
            | (first | ((with_reducible refine Br.tt ?_); conv => whnf) | ((with_reducible refine Br.ff ?_); conv => whnf) | ((with_reducible refine Br.dt ?_ ?_); (focus (first | assumption | omega)); conv => whnf) | ((with_reducible refine Br.ndt ?_ ?_); (focus (first | assumption | omega)); conv => whnf))
            | ((with_reducible refine Ar.i64 ?_ ?_); (focus omega); conv => whnf)
            | ((with_reducible refine Nd.mk ?_ ?_); (focus (first | omega | rfl | assumption | (simp; done))); conv => whnf)
            | ((with_reducible refine Nc.go' (fun b => ?_)); conv => whnf)
            | (first | ((refine Cl.isAt 1 rfl (Try.memGet _ _ k _ _ (by omega) rfl (by omega)) ?_); conv => whnf) | ((refine Cl.isAt 2 rfl (Try.memGetNo _ _ _ _ (by omega) ⟨by omega, by omega⟩ (by omega)) ?_); conv => whnf))
            | ((with_reducible refine (?_ : Sm _ (Builtin.append_ _ _ _) _ _)); (((with_reducible apply (Sm.appAt (E := spE) (et := 59) Try.tysOk 1)); (focus rfl)); (rotate_left; (focus (exact Rd.ptc 0 rfl [(_, _)] rfl)); rotate_right; (focus rfl)); (focus rfl); (focus rfl); (focus rfl); (focus rfl); (focus rfl); (focus rfl); (focus ((simp only [List.length_append, List.length_cons, List.length_nil]); omega)); (intro _ _ _ _); conv => whnf))
            | ((with_reducible refine Br.nds (fun _ => ?_) (fun _ => ?_) ) <;> (conv => whnf)))
          all_goals rename_i a3 c3 hc3 had3
          all_goals exact ⟨k + 1, _, a3, c3, by kernel_rfl, by (refine FEnt.ent ?_; (repeat (first | exact FEnt.rfl | (refine FEnt.at 0 rfl ?_; (try simp only [List.eraseIdx_cons_zero, List.eraseIdx_cons_succ, List.eraseIdx_zero, List.tail_cons])) | (refine FEnt.at 1 rfl ?_; (try simp only [List.eraseIdx_cons_zero, List.eraseIdx_cons_succ, List.eraseIdx_zero, List.tail_cons])) | refine FEnt.drop ?_)); done), ⟨by omega, hz.symm, had3, hc3⟩, by omega⟩
      · conv => whnf
        repeat' (first
          | (first | ((with_reducible refine Br.tt ?_); conv => whnf) | ((with_reducible refine Br.ff ?_); conv => whnf) | ((with_reducible refine Br.dt ?_ ?_); (focus (first | assumption | omega)); conv => whnf) | ((with_reducible refine Br.ndt ?_ ?_); (focus (first | assumption | omega)); conv => whnf))
          | ((with_reducible refine Ar.i64 ?_ ?_); (focus omega); conv => whnf)
          | ((with_reducible refine Nd.mk ?_ ?_); (focus (first | omega | rfl | assumption | (simp; done))); conv => whnf)
          | ((with_reducible refine Nc.go' (fun b => ?_)); conv => whnf)
          | (first | ((refine Cl.isAt 2 rfl (Try.memGet _ _ k _ _ (by omega) rfl (by omega)) ?_); conv => whnf) | ((refine Cl.isAt 1 rfl (Try.memGetNo _ _ _ _ (by omega) ⟨by omega, by omega⟩ (by omega)) ?_); conv => whnf))
          | ((with_reducible refine (?_ : Sm _ (Builtin.append_ _ _ _) _ _)); (((with_reducible apply (Sm.appAt (E := spE) (et := 59) Try.tysOk 1)); (focus rfl)); (rotate_left; (focus (exact Rd.ptc 0 rfl [(_, _)] rfl)); rotate_right; (focus rfl)); (focus rfl); (focus rfl); (focus rfl); (focus rfl); (focus rfl); (focus rfl); (focus ((simp only [List.length_append, List.length_cons, List.length_nil]); omega)); (intro _ _ _ _); conv => whnf))
          | ((with_reducible refine Br.nds (fun _ => ?_) (fun _ => ?_) ) <;> (conv => whnf)))
        all_goals rename_i a3 c3 hc3 had3
        all_goals exact ⟨k + 1, _, a3, c3, by kernel_rfl, by (refine FEnt.ent ?_; (repeat (first | exact FEnt.rfl | (refine FEnt.at 0 rfl ?_; (try simp only [List.eraseIdx_cons_zero, List.eraseIdx_cons_succ, List.eraseIdx_zero, List.tail_cons])) | (refine FEnt.at 1 rfl ?_; (try simp only [List.eraseIdx_cons_zero, List.eraseIdx_cons_succ, List.eraseIdx_zero, List.tail_cons])) | refine FEnt.drop ?_)); done), ⟨by omega, hz.symm, had3, hc3⟩, by omega⟩
    · have hz := sing_no hp
      rw [← h2] at hz
      have hq := Classical.not_not.1 hp
      have he : bAt xs k = bAt ys k := by have := hq.2.2; rw [Int.toNat_natCast] at this; rw [bAt, bAt, this]
      have g1 : k < xs.length := by omega
      have g2 : k < ys.length := by omega
      conv => whnf
      repeat' (first
        | (first | ((with_reducible refine Br.ff ?_); conv => whnf) | ((with_reducible refine Br.dt ?_ ?_); (focus (first | assumption | omega)); conv => whnf) | ((with_reducible refine Br.ndf ?_ ?_); (focus (first | assumption | omega)); conv => whnf))
        | ((with_reducible refine Ar.i64 ?_ ?_); (focus omega); conv => whnf)
        | ((with_reducible refine Nd.mk ?_ ?_); (focus (first | omega | rfl | assumption | (simp; done))); conv => whnf)
        | ((first | refine Cl.isAt 1 rfl (Try.memGet _ _ k _ _ (by omega) rfl (by omega)) ?_ | refine Cl.isAt 2 rfl (Try.memGet _ _ k _ _ (by omega) rfl (by omega)) ?_); conv => whnf))
      refine ⟨k + 1, _, a2, c2, by kernel_rfl, by (exact Ent.rfl), ⟨by omega, hz.symm, h3, h4⟩, by omega⟩
  · have e : k = max xs.length ys.length := by omega
    rw [← e, ← sing_merge, ← h2]
    conv => whnf
    repeat' (first
      | ((with_reducible refine Br.df ?_ ?_); (focus (first | assumption | omega)); conv => whnf)
      | ((refine Cl.new (Try.spanMerge _ _ out _ (by omega) (by ((repeat (first | ((refine Rd.own 0 rfl ?_); (assumption)) | apply Rd.cons)); done))) (fun _ _ _ _ => ?_)); conv => whnf))
    rename_i a3 c3 hc3 had3
    exact New.of rfl hc3 had3 (by (refine FEnt.ent ?_; (repeat (first | exact FEnt.rfl | (refine FEnt.at 0 rfl ?_; (try simp only [List.eraseIdx_cons_zero, List.eraseIdx_cons_succ, List.eraseIdx_zero, List.tail_cons])) | (refine FEnt.at 1 rfl ?_; (try simp only [List.eraseIdx_cons_zero, List.eraseIdx_cons_succ, List.eraseIdx_zero, List.tail_cons])) | refine FEnt.drop ?_)); done))
theorem Try.memDiffNil (b : Nat) (L : List HP) :
    Con Try.prog 21 [.pointer none, pV b] (Try.memH b [] :: L) (New spE 59 (mergeF []) (Try.memH b [] :: L)) := by
  have hnil : ¬ ((0 : Int) < max 0 (([] : List UInt8).length : Int)) := by simp
  refine con_of Try.tysOk Try.func21 rfl rfl ?_
  conv => whnf
  repeat' (first | ((with_reducible refine Cl.is (Try.memSizeNil _) ?_); conv => whnf) | ((refine Cl.isAt 0 rfl (Try.memSize _ [] _) ?_); conv => whnf))
  conv => whnf
  refine Lp.by Try.tysOk [16, 5] (fun (k : Nat) => [.int .i64 0, .slice none 0 0]) (fun k => Try.memH b [] :: L) (fun k => True) (fun k => 0) (0) (by kernel_rfl) (by (exact Ent.rfl)) (trivial) ?_
  rintro k _
  conv => whnf
  repeat (intro _; conv => whnf)
  conv => whnf
  repeat' (first
    | ((with_reducible refine Br.df ?_ ?_); (focus (first | assumption | omega)); conv => whnf)
    | ((refine Cl.new (Try.spanMerge none 0 [] _ (by decide) Rd.nil) (fun _ _ _ _ => ?_)); conv => whnf))
  rename_i a3 c3 hc3 had3
  exact New.of rfl hc3 had3 (by (exact Ent.rfl))
end Go.Proofs
