/- Does one more slot fit: contracts. -/
import Derived.Test.YtaacolkdlmfifaaLoadC
import Derived.Test.YtaacolkdlmfifaaEngFrame
set_option linter.all false
namespace Go.Eng
variable {P : Program} {τ : Tys} {α : Type}
theorem Mk.own0 {et : TypeId} {i : TyI} {n : Int} {L : List HP} {K : Value → List HP → Prop} (E : Enc α) (hz : cellsL i.zero = E.e E.d) (hn : 0 ≤ n ∧ n ≤ 34359738368) (hb : Nat.ble i.bytes 4096 = true)
    (k : ∀ b, K (.slice (some ⟨b, 0, none⟩) 0 n.toNat) (Eng.own E et (some ⟨b, 0, none⟩) n.toNat [] :: L)) : Mk et i 0 n L K := by
  have hb := Nat.le_of_ble_eq_true hb
  refine ⟨Int.le_refl _, hn.1, by omega, ?_, fun b => ?_⟩
  · have h1 : (i.bytes : Int) * n ≤ 4096 * 34359738368 := Int.mul_le_mul (by omega) hn.2 hn.1 (by omega)
    omega
  · refine ⟨_, fun w s => sat_set_own (E := E) (xs := []) (c := n.toNat) 0 rfl ⟨E.flat (List.replicate n.toNat E.d), by rw [hz, flat_rep]; rfl, by rw [E.flat_len, List.length_replicate]; simp⟩ (by show n.toNat ≤ 9223372036854775807; omega) s, ?_⟩
    exact k b
end Go.Eng
namespace Go.Proofs
open Go.Eng
open Classical
set_option linter.unusedVariables false
set_option maxRecDepth 100000
set_option maxHeartbeats 2000000
theorem con_iff' {f : FuncId} {P : Program} {args : List Value} {L M : List HP} {p q : Prop} {ip : Decidable p} {iq : Decidable q} (h : p ↔ q) (c : Con P f args L (Is (.bool (decide p)) M)) : Con P f args L (Is (.bool (decide q)) M) := by
  rwa [decide_eq_decide.2 h] at c
theorem cfg_eta (C : Cfg) (a : Option Addr) (c : Nat) (ys : List Slt) : cfC { C with sa := a, sc := c, ss := ys } = [n64 C.F, .slice C.wa C.ws.length C.wc, .slice a ys.length c, .slice C.ca C.xs.length C.cc] := rfl
/-- tables with other slots -/
abbrev withS (C : Cfg) (a : Option Addr) (c : Nat) (ys : List Slt) : Cfg := ⟨C.F, C.wa, C.wc, C.ws, a, c, ys, C.ca, C.cc, C.xs⟩
theorem withS_b {C : Cfg} {a : Option Addr} {c : Nat} {ys : List Slt} (h : CfB C) (hy : ∀ x ∈ ys, slB x) (hc : ys.length ≤ c) : CfB (withS C a c ys) := ⟨h.F, h.w, hy, h.c, h.wc, hc, h.cc⟩
theorem Try.loadFits (C : Cfg) (s : Slt) (L : List HP) (hB : CfB C) (hs : slB s) (hl : C.ss.length ≤ 1048576) (h1 : Rd slE L C.wa C.ws) (h2 : Rd slE L C.sa C.ss) (h3 : Rd clE L C.ca C.xs) (q : Prop) (hq : Right C → ∀ a c, Right (withS C a c (C.ss ++ [s])) ↔ q) :
    Con Try.prog 8 [cfV C, slV s.1 s.2.1 s.2.2] L (Is (.bool (decide (Right C ∧ q))) L) := by
  have hck := fun L h1 h2 h3 => Try.confCheck C L hB h1 h2 h3
  by_cases hR : Right C
  · have hq := hq hR
    have hck2 := fun a c L hc h1 h2 h3 => con_iff' (iq := propDecidable q) (hq a c) (Try.confCheck (withS C a c (C.ss ++ [s])) L (withS_b hB (fun x hx => by
      rcases List.mem_append.1 hx with h | h
      · exact hB.s x h
      · rw [List.mem_singleton.1 h]; exact hs) hc) h1 h2 h3)
    refine con_of Try.tysOk Try.func8 rfl rfl ?_
    conv => whnf
    repeat' (first
      | ((with_reducible refine Br.nt ?_); conv => whnf)
      | ((with_reducible refine Ar.i64 ?_ ?_); (focus omega); conv => whnf)
      | ((with_reducible refine Nd.mk ?_ ?_); (focus (first | omega | rfl | assumption | (simp; done))); conv => whnf)
      | ((with_reducible refine Nc.go' (fun _ => ?_)); conv => whnf)
      | ((with_reducible refine Fk.mk ?_ ?_) <;> (conv => whnf))
      | (with_reducible exact True.intro)
      | (first | (refine Ld.at 1 rfl rfl ?_; conv => whnf) | (refine Ld.at 2 rfl rfl ?_; conv => whnf))
      | (first | (refine LdN.at 1 rfl (by first | exact Nat.le_of_ble_eq_true rfl | (simp; done)) ?_; conv => whnf) | (refine LdN.at 3 rfl (by first | exact Nat.le_of_ble_eq_true rfl | (simp; done)) ?_; conv => whnf))
      | (refine St.at 3 rfl (by first | exact Nat.le_of_ble_eq_true rfl | (simp; done)) rfl ?_; conv => whnf)
      | ((with_reducible refine Dr.tree (id := 4) Try.tysOk rfl (.one 0 0 (.one 1 0 (.one 2 1 (.fork 3 3 (.one 4 1 (.one 5 2 (.one 6 3 (.one 7 0 (.one 8 3 .nil))))) (.fork 4 1 (.fork 3 3 (.one 5 2 (.one 6 3 (.one 7 0 (.one 8 3 .nil)))) (.fork 5 2 (.one 3 3 (.one 6 3 (.one 7 0 (.one 8 3 .nil)))) .nil)) .nil))))) ?_ _ ?_ (fun _ _ h => h)); (focus kernel_rfl); conv => whnf)
      | (first | ((with_reducible refine Cl.is (Con.dt hR (hck _ (by ((repeat (first | assumption | apply Rd.cons)); done)) (by ((repeat (first | assumption | apply Rd.cons)); done)) (by ((repeat (first | assumption | apply Rd.cons)); done)))) ?_); conv => whnf) | ((with_reducible refine (?_ : Cl _ 12 _ _ _ _)); (refine Cl.is (hck2 _ _ _ (by assumption) (by ((repeat (first | assumption | apply Rd.cons)); done)) (by ((repeat ((refine Rd.own 0 rfl ?_); (assumption))); done)) (by ((repeat (first | assumption | apply Rd.cons)); done))) ?_); conv => whnf))
      | ((with_reducible refine (?_ : Sm _ (Builtin.append_ _ _ _) _ _)); ((first | ((with_reducible apply (Sm.appAt (E := slE) (et := 32) Try.tysOk 0)); (focus rfl)) | ((with_reducible apply (Sm.appAt (E := slE) (et := 32) Try.tysOk 1)); (focus rfl))); (first | ((focus rfl); (focus ((repeat (first | assumption | apply Rd.cons)); done))) | (rotate_left; (focus (first | exact Rd.ptc 0 rfl [_] rfl | exact Rd.ptc 1 rfl [_] rfl)); rotate_right; (focus rfl))); (focus rfl); (focus rfl); (focus rfl); (focus rfl); (focus rfl); (focus rfl); (focus ((simp only [List.length_append, List.length_cons, List.length_nil]); omega)); (intro _ _ _ _); conv => whnf))
      | (((with_reducible apply (Mk.own0 slE)); (focus rfl); (focus omega); (focus rfl); (intro _)); conv => whnf))
    all_goals exact Is.ent (by (refine FEnt.ent ?_; (repeat (first | exact FEnt.rfl | refine FEnt.drop ?_)); done)) (Is.dec ⟨fun h => ⟨hR, h⟩, fun h => h.2⟩)
  · refine con_of Try.tysOk Try.func8 rfl rfl ?_
    conv => whnf
    repeat' (first
      | ((with_reducible refine Br.nf ?_); conv => whnf)
      | ((with_reducible refine Nc.go' (fun _ => ?_)); conv => whnf)
      | (refine LdN.at 1 rfl (by first | exact Nat.le_of_ble_eq_true rfl | (simp; done)) ?_; conv => whnf)
      | ((with_reducible refine Cl.is (Con.df hR (hck _ (by ((repeat (first | assumption | apply Rd.cons)); done)) (by ((repeat (first | assumption | apply Rd.cons)); done)) (by ((repeat (first | assumption | apply Rd.cons)); done)))) ?_); conv => whnf))
    all_goals exact Is.ent (by (refine FEnt.ent ?_; (repeat (first | exact FEnt.rfl | refine FEnt.drop ?_)); done)) (Is.ff (fun h => hR h.1))
theorem withS_irr {C : Cfg} {a a' : Option Addr} {c c' : Nat} {ys : List Slt} (h : Right (withS C a c ys)) : Right (withS C a' c' ys) := ⟨h.f, h.r2, h.r3, h.r4, h.r5, h.r6, h.r7, h.r8, h.r9, h.r10⟩
theorem Try.loadFitsLaw (C : Cfg) (s : Slt) (L : List HP) (hB : CfB C) (hs : slB s) (hl : C.ss.length ≤ 1048576) (h1 : Rd slE L C.wa C.ws) (h2 : Rd slE L C.sa C.ss) (h3 : Rd clE L C.ca C.xs) :
    Con Try.prog 4 [cfV C, slV s.1 s.2.1 s.2.2] L (Is (.bool true) L) := by
  have f1 := fun L h1 h2 h3 => Try.refFaults C L hB h1 h2 h3
  have f2 := fun a c L hc h1 h2 h3 => Try.refFaults (withS C a c (C.ss ++ [s])) L (withS_b hB (fun x hx => by
    rcases List.mem_append.1 hx with h | h
    · exact hB.s x h
    · rw [List.mem_singleton.1 h]; exact hs) hc) h1 h2 h3
  have ft := fun L h1 h2 h3 => Try.loadFits C s L hB hs hl h1 h2 h3 (Right (withS C none 0 (C.ss ++ [s]))) (fun _ a c => ⟨withS_irr, withS_irr⟩)
  by_cases hR : Right C
  · by_cases hq : Right (withS C none 0 (C.ss ++ [s]))
    · have hQ : ∀ a c, Right (withS C a c (C.ss ++ [s])) := fun a c => withS_irr hq
      have ft2 := fun L h1 h2 h3 => Con.dt ⟨hR, hq⟩ (ft L h1 h2 h3)
      refine con_of Try.tysOk Try.func4 rfl rfl ?_
      conv => whnf
      repeat' (first
        | ((with_reducible refine Nd.mk ?_ ?_); (focus (first | omega | rfl | assumption | (simp; done))); conv => whnf)
        | ((with_reducible refine Nc.go' (fun _ => ?_)); conv => whnf)
        | (refine LdN.at 1 rfl (by first | exact Nat.le_of_ble_eq_true rfl | (simp; done)) ?_; conv => whnf)
        | (refine St.at 0 rfl (by first | exact Nat.le_of_ble_eq_true rfl | (simp; done)) rfl ?_; conv => whnf))
      rename_i bx bs bd
      conv => whnf
      refine Dr.fr (id := 2) Try.tysOk rfl [(1, 0), (2, 1), (4, 1), (0, 2), (3, 5), (5, 2), (6, 5), (7, 0), (8, 5)] ([ptc bd 30 (cfC C)]) (ptc bs 32 [n64 s.1, n64 s.2.1, n64 s.2.2] :: ptc bx 30 (cfC C) :: L) (by kernel_rfl) (by (exact Ent.rfl)) ?_
      conv => whnf
      conv => whnf
      repeat' (first
        | (first | ((with_reducible refine Br.tt ?_); conv => whnf) | ((with_reducible refine Br.ff ?_); conv => whnf) | ((with_reducible refine Br.dt ?_ ?_); (focus (first | assumption | omega)); conv => whnf) | ((with_reducible refine Br.ndf ?_ ?_); (focus (first | assumption | omega)); conv => whnf))
        | ((with_reducible refine Nd.mk ?_ ?_); (focus (first | omega | rfl | assumption | (simp; done))); conv => whnf)
        | ((with_reducible refine Nc.go' (fun _ => ?_)); conv => whnf)
        | (first | (refine Ld.at 1 rfl rfl ?_; conv => whnf) | (refine Ld.at 5 rfl rfl ?_; conv => whnf))
        | (first | (refine LdN.at 0 rfl (by first | exact Nat.le_of_ble_eq_true rfl | (simp; done)) ?_; conv => whnf) | (refine LdN.at 3 rfl (by first | exact Nat.le_of_ble_eq_true rfl | (simp; done)) ?_; conv => whnf) | (refine LdN.at 4 rfl (by first | exact Nat.le_of_ble_eq_true rfl | (simp; done)) ?_; conv => whnf) | (refine LdN.at 5 rfl (by first | exact Nat.le_of_ble_eq_true rfl | (simp; done)) ?_; conv => whnf))
        | (refine FS.at 2 rfl (by first | exact Nat.le_of_ble_eq_true rfl | (simp; done)) rfl ?_; conv => whnf)
        | ((with_reducible refine (?_ : SF _ (Builtin.append_ _ _ _) _ _ _)); (first | (((with_reducible apply (SF.appAt (E := slE) (et := 32) Try.tysOk 1)); (focus rfl)); (rotate_left; (focus (exact Rd.ptc 0 rfl [_] rfl)); rotate_right; (focus rfl)); (focus rfl); (focus rfl); (focus rfl); (focus rfl); (focus rfl); (focus rfl); (focus ((simp only [List.length_append, List.length_cons, List.length_nil]); omega)); (intro _ _ _ _); conv => whnf) | (((with_reducible_and_instances apply (SF.appNew (E := slE) (et := 32) Try.tysOk 0)); (focus rfl)); ((focus rfl); (focus ((repeat (first | assumption | apply Rd.cons)); done))); (focus rfl); (focus rfl); (focus rfl); (focus rfl); (focus rfl); (focus (omega)); (intro _ _ _ _); conv => whnf)))
        | (first | ((with_reducible refine (?_ : Cl _ 7 _ _ _ _)); (first | (refine Cl.exs (f1 _ (by ((repeat (first | assumption | apply Rd.cons)); done)) (by ((repeat (first | assumption | apply Rd.cons)); done)) (by ((repeat (first | assumption | apply Rd.cons)); done))) ?_; rintro y2 ⟨hl2, he2⟩; have hz2 : y2.2.2.length = 0 := by rw [he2.2 hR]; rfl) | (refine Cl.exs (f2 _ _ _ (by assumption) (by ((repeat (first | assumption | apply Rd.cons)); done)) (by ((repeat ((refine Rd.own 1 rfl ?_); (assumption))); done)) (by ((repeat (first | assumption | apply Rd.cons)); done))) ?_; rintro y3 ⟨hl3, he3⟩; have hz3 : y3.2.2.length = 0 := by rw [he3.2 (hQ _ _)]; rfl)); conv => whnf) | ((with_reducible refine Cl.is (ft2 _ (by ((repeat (first | assumption | apply Rd.cons | apply Rd.app)); done)) (by ((repeat (first | assumption | apply Rd.cons | apply Rd.app)); done)) (by ((repeat (first | assumption | apply Rd.cons | apply Rd.app)); done))) ?_); conv => whnf))
        | ((with_reducible refine (?_ : Sm _ (Builtin.append_ _ _ _) _ _)); (((with_reducible_and_instances apply (Sm.appNew (E := slE) (et := 32) Try.tysOk 0)); (focus rfl)); ((focus rfl); (focus ((repeat (first | assumption | apply Rd.cons)); done))); (focus rfl); (focus rfl); (focus rfl); (focus rfl); (focus rfl); (focus (omega)); (intro _ _ _ _); conv => whnf))
        | ((with_reducible refine Br.bs (fun _ => ?_) (fun _ => ?_) ) <;> (conv => whnf)))
      · rename_i z
        rw [show decide ((y3.2.2.length : Int) = 0) = true from decide_eq_true (by omega)] at z
        exact absurd z (by decide)
      rename_i a7 c7 hc7 had7 z1
      conv => whnf
      refine Lp.by Try.tysOk [8] (fun (k : Nat) => [.int .i64 k]) (fun k => own slE 32 a7 c7 C.ss :: ptc bx 30 (cfC C) :: L) (fun k => k ≤ C.ss.length) (fun k => C.ss.length - k) (0) (by kernel_rfl) (by (refine FEnt.ent ?_; (repeat (first | exact FEnt.rfl | (refine FEnt.at 0 rfl ?_; (try simp only [List.eraseIdx_cons_zero, List.eraseIdx_cons_succ, List.eraseIdx_zero, List.tail_cons])) | (refine FEnt.at 4 rfl ?_; (try simp only [List.eraseIdx_cons_zero, List.eraseIdx_cons_succ, List.eraseIdx_zero, List.tail_cons])) | refine FEnt.drop ?_)); done)) (by omega) ?_
      rintro k g1
      conv => whnf
      repeat (intro _; conv => whnf)
      by_cases hk : k < C.ss.length
      · conv => whnf
        repeat' (first
          | (first | ((with_reducible refine Br.dt ?_ ?_); (focus (first | assumption | omega)); conv => whnf) | ((with_reducible refine Br.ndf ?_ ?_); (focus (first | assumption | omega)); conv => whnf))
          | ((with_reducible refine Ar.i64 ?_ ?_); (focus omega); conv => whnf)
          | ((with_reducible refine Nd.mk ?_ ?_); (focus (first | omega | rfl | assumption | (simp; done))); conv => whnf)
          | ((with_reducible refine Ix.ad ?_ ?_ ?_); (focus (first | assumption | exact Rd.ad (by assumption))); (focus (omega)); conv => whnf)
          | (refine Ld.at 1 rfl rfl ?_; conv => whnf)
          | ((with_reducible apply LdN.rdk); (focus ((repeat (first | assumption | ((refine Rd.own 0 rfl ?_); (assumption)) | apply Rd.cons)); done)); (focus rfl); (focus rfl); (focus (omega)); conv => whnf)
          | ((with_reducible refine Dr.by (id := 10) Try.tysOk rfl [(0, 0), (2, 0), (5, 0), (6, 0), (7, 0), (1, 1), (3, 0), (4, 1), (8, 1), (9, 0)] ?_ ?_); (focus kernel_rfl); conv => whnf))
        all_goals exact ⟨k + 1, by kernel_rfl, by (exact Ent.rfl), by omega, by omega⟩
      · conv => whnf
        repeat' (first
          | ((with_reducible refine Br.df ?_ ?_); (focus (first | assumption | omega)); conv => whnf)
          | ((with_reducible refine Cl.is (Try.loadLive _) ?_); conv => whnf))
        all_goals (refine Is.ent ?_ ?_; (focus (refine FEnt.ent ?_; (repeat (first | exact FEnt.rfl | refine FEnt.drop ?_)); done)); (exact Is.rfl))
    · have hQ : ∀ a c, ¬ Right (withS C a c (C.ss ++ [s])) := fun a c h => hq (withS_irr h)
      have ft2 := fun L h1 h2 h3 => Con.df (fun h => hq h.2) (ft L h1 h2 h3)
      refine con_of Try.tysOk Try.func4 rfl rfl ?_
      conv => whnf
      repeat' (first
        | ((with_reducible refine Nd.mk ?_ ?_); (focus (first | omega | rfl | assumption | (simp; done))); conv => whnf)
        | ((with_reducible refine Nc.go' (fun _ => ?_)); conv => whnf)
        | (refine LdN.at 1 rfl (by first | exact Nat.le_of_ble_eq_true rfl | (simp; done)) ?_; conv => whnf)
        | (refine St.at 0 rfl (by first | exact Nat.le_of_ble_eq_true rfl | (simp; done)) rfl ?_; conv => whnf))
      rename_i bx bs bd
      conv => whnf
      refine Dr.fr (id := 2) Try.tysOk rfl [(1, 0), (2, 1), (4, 1), (0, 2), (3, 5), (5, 2), (6, 5), (7, 0), (8, 5)] ([ptc bd 30 (cfC C)]) (ptc bs 32 [n64 s.1, n64 s.2.1, n64 s.2.2] :: ptc bx 30 (cfC C) :: L) (by kernel_rfl) (by (exact Ent.rfl)) ?_
      conv => whnf
      conv => whnf
      repeat' (first
        | (first | ((with_reducible refine Br.tt ?_); conv => whnf) | ((with_reducible refine Br.ff ?_); conv => whnf) | ((with_reducible refine Br.dt ?_ ?_); (focus (first | assumption | omega)); conv => whnf) | ((with_reducible refine Br.ndf ?_ ?_); (focus (first | assumption | omega)); conv => whnf))
        | ((with_reducible refine Nd.mk ?_ ?_); (focus (first | omega | rfl | assumption | (simp; done))); conv => whnf)
        | ((with_reducible refine Nc.go' (fun _ => ?_)); conv => whnf)
        | (first | (refine Ld.at 1 rfl rfl ?_; conv => whnf) | (refine Ld.at 5 rfl rfl ?_; conv => whnf))
        | (first | (refine LdN.at 0 rfl (by first | exact Nat.le_of_ble_eq_true rfl | (simp; done)) ?_; conv => whnf) | (refine LdN.at 3 rfl (by first | exact Nat.le_of_ble_eq_true rfl | (simp; done)) ?_; conv => whnf) | (refine LdN.at 4 rfl (by first | exact Nat.le_of_ble_eq_true rfl | (simp; done)) ?_; conv => whnf) | (refine LdN.at 5 rfl (by first | exact Nat.le_of_ble_eq_true rfl | (simp; done)) ?_; conv => whnf))
        | (refine FS.at 2 rfl (by first | exact Nat.le_of_ble_eq_true rfl | (simp; done)) rfl ?_; conv => whnf)
        | ((with_reducible refine (?_ : SF _ (Builtin.append_ _ _ _) _ _ _)); (first | (((with_reducible apply (SF.appAt (E := slE) (et := 32) Try.tysOk 1)); (focus rfl)); (rotate_left; (focus (exact Rd.ptc 0 rfl [_] rfl)); rotate_right; (focus rfl)); (focus rfl); (focus rfl); (focus rfl); (focus rfl); (focus rfl); (focus rfl); (focus ((simp only [List.length_append, List.length_cons, List.length_nil]); omega)); (intro _ _ _ _); conv => whnf) | (((with_reducible_and_instances apply (SF.appNew (E := slE) (et := 32) Try.tysOk 0)); (focus rfl)); ((focus rfl); (focus ((repeat (first | assumption | apply Rd.cons)); done))); (focus rfl); (focus rfl); (focus rfl); (focus rfl); (focus rfl); (focus (omega)); (intro _ _ _ _); conv => whnf)))
        | (first | ((with_reducible refine (?_ : Cl _ 7 _ _ _ _)); (first | (refine Cl.exs (f1 _ (by ((repeat (first | assumption | apply Rd.cons)); done)) (by ((repeat (first | assumption | apply Rd.cons)); done)) (by ((repeat (first | assumption | apply Rd.cons)); done))) ?_; rintro y2 ⟨hl2, he2⟩; have hz2 : y2.2.2.length = 0 := by rw [he2.2 hR]; rfl) | (refine Cl.exs (f2 _ _ _ (by assumption) (by ((repeat (first | assumption | apply Rd.cons)); done)) (by ((repeat ((refine Rd.own 1 rfl ?_); (assumption))); done)) (by ((repeat (first | assumption | apply Rd.cons)); done))) ?_; rintro y3 ⟨hl3, he3⟩; have hp3 : 0 < y3.2.2.length := List.length_pos_iff.2 (fun h => hQ _ _ (he3.1 h)))); conv => whnf) | ((with_reducible refine Cl.is (ft2 _ (by ((repeat (first | assumption | apply Rd.cons | apply Rd.app)); done)) (by ((repeat (first | assumption | apply Rd.cons | apply Rd.app)); done)) (by ((repeat (first | assumption | apply Rd.cons | apply Rd.app)); done))) ?_); conv => whnf))
        | ((with_reducible refine (?_ : Sm _ (Builtin.append_ _ _ _) _ _)); (((with_reducible_and_instances apply (Sm.appNew (E := slE) (et := 32) Try.tysOk 0)); (focus rfl)); ((focus rfl); (focus ((repeat (first | assumption | apply Rd.cons)); done))); (focus rfl); (focus rfl); (focus rfl); (focus rfl); (focus rfl); (focus (omega)); (intro _ _ _ _); conv => whnf))
        | ((with_reducible refine Br.bs (fun _ => ?_) (fun _ => ?_) ) <;> (conv => whnf)))
      · rename_i z
        rw [show decide ((y3.2.2.length : Int) = 0) = false from decide_eq_false (by omega)] at z
        exact absurd z (by decide)
      rename_i a7 c7 hc7 had7 z1
      conv => whnf
      refine Lp.by Try.tysOk [8] (fun (k : Nat) => [.int .i64 k]) (fun k => own slE 32 a7 c7 C.ss :: ptc bx 30 (cfC C) :: L) (fun k => k ≤ C.ss.length) (fun k => C.ss.length - k) (0) (by kernel_rfl) (by (refine FEnt.ent ?_; (repeat (first | exact FEnt.rfl | (refine FEnt.at 0 rfl ?_; (try simp only [List.eraseIdx_cons_zero, List.eraseIdx_cons_succ, List.eraseIdx_zero, List.tail_cons])) | (refine FEnt.at 4 rfl ?_; (try simp only [List.eraseIdx_cons_zero, List.eraseIdx_cons_succ, List.eraseIdx_zero, List.tail_cons])) | refine FEnt.drop ?_)); done)) (by omega) ?_
      rintro k g1
      conv => whnf
      repeat (intro _; conv => whnf)
      by_cases hk : k < C.ss.length
      · conv => whnf
        repeat' (first
          | (first | ((with_reducible refine Br.dt ?_ ?_); (focus (first | assumption | omega)); conv => whnf) | ((with_reducible refine Br.ndf ?_ ?_); (focus (first | assumption | omega)); conv => whnf))
          | ((with_reducible refine Ar.i64 ?_ ?_); (focus omega); conv => whnf)
          | ((with_reducible refine Nd.mk ?_ ?_); (focus (first | omega | rfl | assumption | (simp; done))); conv => whnf)
          | ((with_reducible refine Ix.ad ?_ ?_ ?_); (focus (first | assumption | exact Rd.ad (by assumption))); (focus (omega)); conv => whnf)
          | (refine Ld.at 1 rfl rfl ?_; conv => whnf)
          | ((with_reducible apply LdN.rdk); (focus ((repeat (first | assumption | ((refine Rd.own 0 rfl ?_); (assumption)) | apply Rd.cons)); done)); (focus rfl); (focus rfl); (focus (omega)); conv => whnf)
          | ((with_reducible refine Dr.by (id := 10) Try.tysOk rfl [(0, 0), (2, 0), (5, 0), (6, 0), (7, 0), (1, 1), (3, 0), (4, 1), (8, 1), (9, 0)] ?_ ?_); (focus kernel_rfl); conv => whnf))
        all_goals exact ⟨k + 1, by kernel_rfl, by (exact Ent.rfl), by omega, by omega⟩
      · conv => whnf
        repeat' (first
          | ((with_reducible refine Br.df ?_ ?_); (focus (first | assumption | omega)); conv => whnf)
          | ((with_reducible refine Cl.is (Try.loadLive _) ?_); conv => whnf))
        all_goals (refine Is.ent ?_ ?_; (focus (refine FEnt.ent ?_; (repeat (first | exact FEnt.rfl | refine FEnt.drop ?_)); done)); (exact Is.rfl))
  · have ft2 := fun L h1 h2 h3 => Con.df (fun h => hR h.1) (ft L h1 h2 h3)
    refine con_of Try.tysOk Try.func4 rfl rfl ?_
    conv => whnf
    repeat' (first
      | ((with_reducible refine Nd.mk ?_ ?_); (focus (first | omega | rfl | assumption | (simp; done))); conv => whnf)
      | ((with_reducible refine Nc.go' (fun _ => ?_)); conv => whnf)
      | (refine LdN.at 1 rfl (by first | exact Nat.le_of_ble_eq_true rfl | (simp; done)) ?_; conv => whnf)
      | (refine St.at 0 rfl (by first | exact Nat.le_of_ble_eq_true rfl | (simp; done)) rfl ?_; conv => whnf))
    rename_i bx bs bd
    conv => whnf
    refine Dr.fr (id := 2) Try.tysOk rfl [(1, 0), (2, 1), (4, 1), (0, 2), (3, 5), (5, 2), (6, 5), (7, 0), (8, 5)] ([ptc bd 30 (cfC C)]) (ptc bs 32 [n64 s.1, n64 s.2.1, n64 s.2.2] :: ptc bx 30 (cfC C) :: L) (by kernel_rfl) (by (exact Ent.rfl)) ?_
    conv => whnf
    conv => whnf
    repeat' (first
      | (first | ((with_reducible refine Br.ff ?_); conv => whnf) | ((with_reducible refine Br.df ?_ ?_); (focus (first | assumption | omega)); conv => whnf) | ((with_reducible refine Br.ndf ?_ ?_); (focus (first | assumption | omega)); conv => whnf) | ((with_reducible refine Br.nef ?_ ?_); (focus (first | rfl | assumption)); conv => whnf))
      | ((with_reducible refine Nd.mk ?_ ?_); (focus (first | omega | rfl | assumption | (simp; done))); conv => whnf)
      | ((with_reducible refine Nc.go' (fun _ => ?_)); conv => whnf)
      | (first | (refine Ld.at 1 rfl rfl ?_; conv => whnf) | (refine Ld.at 5 rfl rfl ?_; conv => whnf))
      | (first | (refine LdN.at 0 rfl (by first | exact Nat.le_of_ble_eq_true rfl | (simp; done)) ?_; conv => whnf) | (refine LdN.at 4 rfl (by first | exact Nat.le_of_ble_eq_true rfl | (simp; done)) ?_; conv => whnf) | (refine LdN.at 5 rfl (by first | exact Nat.le_of_ble_eq_true rfl | (simp; done)) ?_; conv => whnf))
      | (refine FS.at 2 rfl (by first | exact Nat.le_of_ble_eq_true rfl | (simp; done)) rfl ?_; conv => whnf)
      | ((with_reducible refine (?_ : SF _ (Builtin.append_ _ _ _) _ _ _)); (first | (((with_reducible apply (SF.appAt (E := slE) (et := 32) Try.tysOk 1)); (focus rfl)); (rotate_left; (focus (exact Rd.ptc 0 rfl [_] rfl)); rotate_right; (focus rfl)); (focus rfl); (focus rfl); (focus rfl); (focus rfl); (focus rfl); (focus rfl); (focus ((simp only [List.length_append, List.length_cons, List.length_nil]); omega)); (intro _ _ _ _); conv => whnf) | (((with_reducible_and_instances apply (SF.appNew (E := slE) (et := 32) Try.tysOk 0)); (focus rfl)); ((focus rfl); (focus ((repeat (first | assumption | apply Rd.cons)); done))); (focus rfl); (focus rfl); (focus rfl); (focus rfl); (focus rfl); (focus (omega)); (intro _ _ _ _); conv => whnf)))
      | (first | ((with_reducible refine (?_ : Cl _ 7 _ _ _ _)); (first | (refine Cl.exs (f1 _ (by ((repeat (first | assumption | apply Rd.cons)); done)) (by ((repeat (first | assumption | apply Rd.cons)); done)) (by ((repeat (first | assumption | apply Rd.cons)); done))) ?_; rintro y2 ⟨hl2, he2⟩; have hp2 : 0 < y2.2.2.length := List.length_pos_iff.2 (fun h => hR (he2.1 h))) | (refine Cl.exs (f2 _ _ _ (by assumption) (by fail) (by fail) (by fail)) ?_; rintro y3 ⟨hl3, he3⟩; skip)); conv => whnf) | ((with_reducible refine Cl.is (ft2 _ (by ((repeat (first | assumption | apply Rd.cons | apply Rd.app)); done)) (by ((repeat (first | assumption | apply Rd.cons | apply Rd.app)); done)) (by ((repeat (first | assumption | apply Rd.cons | apply Rd.app)); done))) ?_); conv => whnf))
      | ((with_reducible refine (?_ : Sm _ (Builtin.append_ _ _ _) _ _)); (((with_reducible_and_instances apply (Sm.appNew (E := slE) (et := 32) Try.tysOk 0)); (focus rfl)); ((focus rfl); (focus ((repeat (first | assumption | apply Rd.cons)); done))); (focus rfl); (focus rfl); (focus rfl); (focus rfl); (focus rfl); (focus (omega)); (intro _ _ _ _); conv => whnf)))
    rename_i a7 c7 hc7 had7
    conv => whnf
    refine Lp.by Try.tysOk [8] (fun (k : Nat) => [.int .i64 k]) (fun k => own slE 32 a7 c7 C.ss :: ptc bx 30 (cfC C) :: L) (fun k => k ≤ C.ss.length) (fun k => C.ss.length - k) (0) (by kernel_rfl) (by (refine FEnt.ent ?_; (repeat (first | exact FEnt.rfl | (refine FEnt.at 0 rfl ?_; (try simp only [List.eraseIdx_cons_zero, List.eraseIdx_cons_succ, List.eraseIdx_zero, List.tail_cons])) | (refine FEnt.at 4 rfl ?_; (try simp only [List.eraseIdx_cons_zero, List.eraseIdx_cons_succ, List.eraseIdx_zero, List.tail_cons])) | refine FEnt.drop ?_)); done)) (by omega) ?_
    rintro k g1
    conv => whnf
    repeat (intro _; conv => whnf)
    by_cases hk : k < C.ss.length
    · conv => whnf
      repeat' (first
        | (first | ((with_reducible refine Br.dt ?_ ?_); (focus (first | assumption | omega)); conv => whnf) | ((with_reducible refine Br.ndf ?_ ?_); (focus (first | assumption | omega)); conv => whnf))
        | ((with_reducible refine Ar.i64 ?_ ?_); (focus omega); conv => whnf)
        | ((with_reducible refine Nd.mk ?_ ?_); (focus (first | omega | rfl | assumption | (simp; done))); conv => whnf)
        | ((with_reducible refine Ix.ad ?_ ?_ ?_); (focus (first | assumption | exact Rd.ad (by assumption))); (focus (omega)); conv => whnf)
        | (refine Ld.at 1 rfl rfl ?_; conv => whnf)
        | ((with_reducible apply LdN.rdk); (focus ((repeat (first | assumption | ((refine Rd.own 0 rfl ?_); (assumption)) | apply Rd.cons)); done)); (focus rfl); (focus rfl); (focus (omega)); conv => whnf)
        | ((with_reducible refine Dr.by (id := 10) Try.tysOk rfl [(0, 0), (2, 0), (5, 0), (6, 0), (7, 0), (1, 1), (3, 0), (4, 1), (8, 1), (9, 0)] ?_ ?_); (focus kernel_rfl); conv => whnf))
      all_goals exact ⟨k + 1, by kernel_rfl, by (exact Ent.rfl), by omega, by omega⟩
    · conv => whnf
      repeat' (first
        | ((with_reducible refine Br.df ?_ ?_); (focus (first | assumption | omega)); conv => whnf)
        | ((with_reducible refine Cl.is (Try.loadLive _) ?_); conv => whnf))
      all_goals (refine Is.ent ?_ ?_; (focus (refine FEnt.ent ?_; (repeat (first | exact FEnt.rfl | refine FEnt.drop ?_)); done)); (exact Is.rfl))
end Go.Proofs
