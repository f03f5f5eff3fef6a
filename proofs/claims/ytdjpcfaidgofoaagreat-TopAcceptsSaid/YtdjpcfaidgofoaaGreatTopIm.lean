/- The image that is tried: plain. -/
import Derived.Test.YtdjpcfaidgofoaaGreatTopH
import Derived.Test.YtdjpcfaidgofoaaGreatTopSm
import Derived.Test.YtdjpcfaidgofoaaGreatTopS
import Derived.KernelRfl
set_option linter.all false
namespace Go.Proofs
open Go.Eng
set_option linter.unusedVariables false
set_option maxRecDepth 100000
set_option maxHeartbeats 8000000
/-- a writer, and what it has written -/
def Tryz.wrH (b : Nat) (xs : List UInt8) : HP := fun e h => ∃ (a : Option Addr) (c : Nat), xs.length ≤ c ∧ Ad a xs.length ∧ Parts e [ptc b 95 [n64 0, .slice a xs.length c], own u8E 5 a c xs] h
theorem Tryz.wrOpen {P : Program} {f : FuncId} {args : List Value} {b : Nat} {xs : List UInt8} {L : List HP} {R : Value → List HP → Prop} {X : List PanicEntry → List HP → Prop}
    (k : ∀ a c, xs.length ≤ c → Ad a xs.length → Con P f args (ptc b 95 [n64 0, .slice a xs.length c] :: own u8E 5 a c xs :: L) R X) : Con P f args (Tryz.wrH b xs :: L) R X := by
  refine ⟨(k (some ⟨0, 0, none⟩) xs.length (Nat.le_refl _) (fun _ => rfl)).ent, fun w s => ?_⟩
  obtain ⟨c, ⟨h1, h2, rfl, ⟨a, c, hc, had, hp⟩, hl⟩, ok⟩ := s
  exact (k a c hc had).run w ⟨_, (parts_append (L := [_, _])).2 ⟨h1, h2, rfl, hp, hl⟩, ok⟩
theorem Tryz.wrShut {b c n : Nat} {a : Option Addr} {xs : List UInt8} {L M : List HP}
    (h : FEnt L (ptc b 95 [n64 0, .slice a n c] :: own u8E 5 a c xs :: M)) (hn : n = xs.length) (hc : xs.length ≤ c) (had : Ad a xs.length) : FEnt L (Tryz.wrH b xs :: M) := by
  subst hn
  exact FEnt.shut (N := [_, _]) (fun e c' hp => ⟨a, c, hc, had, hp⟩) h
theorem Tryz.wrPut (b : Nat) (ws bs : List UInt8) (x : Option Addr) (c : Nat) (ok : Bool) (L : List HP) (hok : ok = true) (hl : ws.length ≤ 1000) (hb : bs.length ≤ 1000) (hr : Rd u8E L x bs) :
    Con Tryz.prog 76 [pV b, .bool ok, .slice x bs.length c] (Tryz.wrH b ws :: L) (Is (.tuple #[]) (Tryz.wrH b (ws ++ bs) :: L)) := by
  subst hok
  refine Tryz.wrOpen fun a c hc had => ?_
  refine con_of Tryz.tysOk Tryz.func76 rfl rfl ?_
  conv => whnf
  repeat' (first
    | (first | ((with_reducible refine Br.ff ?_); conv => whnf) | ((with_reducible refine Br.nt ?_); conv => whnf) | ((with_reducible refine Br.sn ?_); conv => whnf) | ((with_reducible refine Br.ndf ?_ ?_); (focus (first | assumption | omega)); conv => whnf))
    | ((with_reducible refine Nd.mk ?_ ?_); (focus (first | omega | rfl | assumption | (simp; done))); conv => whnf)
    | (refine Ld.at 0 rfl rfl ?_; conv => whnf)
    | (refine St.at 1 rfl (by first | exact Nat.le_of_ble_eq_true rfl | (simp; done)) rfl ?_; conv => whnf)
    | ((with_reducible refine (?_ : Sm _ (Builtin.append_ _ _ _) _ _)); (((with_reducible apply (Sm.appAt (E := u8E) (et := 5) Tryz.tysOk 1)); (focus rfl)); ((focus rfl); (focus ((repeat (first | assumption | apply Rd.cons)); done))); (focus rfl); (focus rfl); (focus rfl); (focus rfl); (focus rfl); (focus rfl); (focus (omega)); (intro _ _ _ _); conv => whnf)))
  all_goals first | (exfalso; omega) | (refine Is.ent ?_ ?_; (focus (refine FEnt.ent ?_; (repeat (first | exact FEnt.rfl | (refine FEnt.at 1 rfl ?_; (try simp only [List.eraseIdx_cons_zero, List.eraseIdx_cons_succ, List.eraseIdx_zero, List.tail_cons])) | (apply Tryz.wrShut) | rfl | assumption)); done)); (exact Is.rfl))
theorem Tryz.wrByte (b : Nat) (ws : List UInt8) (n : Int) (L : List HP) (hl : ws.length ≤ 900) (hn : 0 ≤ n ∧ n ≤ 255) : Con Tryz.prog 31 [pV b, n64 n] (Tryz.wrH b ws :: L) (Is (.tuple #[]) (Tryz.wrH b (ws ++ [u8of n]) :: L)) := by
  refine con_of Tryz.tysOk Tryz.func31 rfl rfl ?_
  conv => whnf
  repeat' (first
    | (first | ((with_reducible refine Br.tt ?_); conv => whnf) | ((with_reducible refine Br.dt ?_ ?_); (focus (first | assumption | omega)); conv => whnf))
    | ((with_reducible refine Ar.u8b ?_); conv => whnf)
    | ((with_reducible refine Nc.go' (fun _ => ?_)); conv => whnf)
    | ((with_reducible refine (?_ : Cl _ 76 _ _ _ _)); (refine Cl.isAt 1 rfl (Tryz.wrPut b ws [u8of n] _ _ _ _ (decide_eq_true hn.2) (by omega) (by simp) (Rd.ptc 0 rfl [u8of n] rfl)) ?_); conv => whnf))
  all_goals first | (exfalso; omega) | (refine Is.ent ?_ ?_; (focus (refine FEnt.ent ?_; (repeat (first | exact FEnt.rfl | (refine FEnt.at 1 rfl ?_; (try simp only [List.eraseIdx_cons_zero, List.eraseIdx_cons_succ, List.eraseIdx_zero, List.tail_cons])) | refine FEnt.drop ?_)); done)); (exact Is.rfl))
theorem Tryz.wrTwo (b : Nat) (ws : List UInt8) (n : Int) (L : List HP) (hl : ws.length ≤ 900) (hn : 0 ≤ n ∧ n ≤ 65535) : Con Tryz.prog 32 [pV b, n64 n] (Tryz.wrH b ws :: L) (Is (.tuple #[]) (Tryz.wrH b (ws ++ [u8of n, u8of (n / 256)]) :: L)) := by
  refine con_of Tryz.tysOk Tryz.func32 rfl rfl ?_
  conv => whnf
  repeat' (first
    | (first | ((with_reducible refine Br.tt ?_); conv => whnf) | ((with_reducible refine Br.dt ?_ ?_); (focus (first | assumption | omega)); conv => whnf))
    | ((with_reducible refine Bt.shr8 ?_); conv => whnf)
    | ((with_reducible refine Ar.u8b ?_); conv => whnf)
    | ((with_reducible refine Nd.mk ?_ ?_); (focus (first | omega | rfl | assumption | (simp; done))); conv => whnf)
    | ((with_reducible refine Nc.go' (fun _ => ?_)); conv => whnf)
    | ((with_reducible refine (?_ : Cl _ 76 _ _ _ _)); (refine Cl.isAt 1 rfl (Tryz.wrPut b ws [u8of n, u8of (n / 256)] _ _ _ _ (decide_eq_true hn.2) (by omega) (by simp) (Rd.ptc 0 rfl [u8of n, u8of (n / 256)] rfl)) ?_); conv => whnf))
  all_goals first | (exfalso; omega) | (refine Is.ent ?_ ?_; (focus (refine FEnt.ent ?_; (repeat (first | exact FEnt.rfl | (refine FEnt.at 1 rfl ?_; (try simp only [List.eraseIdx_cons_zero, List.eraseIdx_cons_succ, List.eraseIdx_zero, List.tail_cons])) | refine FEnt.drop ?_)); done)); (exact Is.rfl))
theorem Tryz.wrErr (b : Nat) (ws : List UInt8) (L : List HP) : Con Tryz.prog 35 [pV b] (Tryz.wrH b ws :: L) (Is (n64 0) (Tryz.wrH b ws :: L)) := by
  refine Tryz.wrOpen fun a c hc had => ?_
  refine con_of Tryz.tysOk Tryz.func35 rfl rfl ?_
  conv => whnf
  repeat' (first
    | ((with_reducible refine Br.sn ?_); conv => whnf)
    | (refine Ld.at 0 rfl rfl ?_; conv => whnf))
  all_goals first | (exfalso; omega) | (refine Is.ent ?_ ?_; (focus (refine FEnt.ent ?_; (repeat (first | exact FEnt.rfl | (apply Tryz.wrShut) | rfl | assumption)); done)); (exact Is.rfl))
theorem Tryz.wrBytes (b : Nat) (ws : List UInt8) (L : List HP) : Con Tryz.prog 37 [pV b] (Tryz.wrH b ws :: L) (Is (.string ⟨ws.toArray⟩) (Tryz.wrH b ws :: L)) := by
  refine Tryz.wrOpen fun a c hc had => ?_
  refine con_of Tryz.tysOk Tryz.func37 rfl rfl ?_
  conv => whnf
  repeat' (first
    | (first | ((with_reducible refine Br.ff ?_); conv => whnf) | ((with_reducible refine Br.sn ?_); conv => whnf) | ((with_reducible refine Br.ndf ?_ ?_); (focus (first | assumption | omega)); conv => whnf))
    | (refine Ld.at 0 rfl rfl ?_; conv => whnf)
    | ((with_reducible refine (?_ : Sm _ (convert _ _ _) _ _)); ((apply (Sm.b2s Tryz.tysOk)); ((focus rfl); (focus ((repeat ((refine Rd.own 1 rfl ?_); (assumption))); done))); (focus rfl); (focus rfl); (focus rfl); (focus rfl); (focus rfl); (focus rfl); conv => whnf)))
  all_goals first | (exfalso; omega) | (refine Is.ent ?_ ?_; (focus (refine FEnt.ent ?_; (repeat (first | exact FEnt.rfl | (apply Tryz.wrShut) | rfl | assumption)); done)); (exact Is.rfl))
theorem Tryz.imgRow (b : Nat) (ws : List UInt8) (o f t : Int) (L : List HP) (hl : ws.length ≤ 800) (ho : 0 ≤ o ∧ o ≤ 255) (hf : 0 ≤ f ∧ f ≤ 65535) (ht : 0 ≤ t ∧ t ≤ 65535) :
    Con Tryz.prog 33 [pV b, n64 o, n64 f, n64 t] (Tryz.wrH b ws :: L) (Is (.tuple #[]) (Tryz.wrH b (ws ++ [u8of o] ++ [u8of f, u8of (f / 256)] ++ [u8of t, u8of (t / 256)]) :: L)) := by
  have h1 := fun L => Tryz.wrByte b ws o L (by omega) ho
  have h2 := fun L => Tryz.wrTwo b (ws ++ [u8of o]) f L (by simp; omega) hf
  have h3 := fun L => Tryz.wrTwo b (ws ++ [u8of o] ++ [u8of f, u8of (f / 256)]) t L (by simp; omega) ht
  generalize ws ++ [u8of o] ++ [u8of f, u8of (f / 256)] ++ [u8of t, u8of (t / 256)] = w3 at *
  generalize ws ++ [u8of o] ++ [u8of f, u8of (f / 256)] = w2 at *
  generalize ws ++ [u8of o] = w1 at *
  refine con_of Tryz.tysOk Tryz.func33 rfl rfl ?_
  conv => whnf
  repeat' (first | ((refine Cl.isAt 0 rfl (h1 _) ?_); conv => whnf) | ((refine Cl.isAt 0 rfl (h2 _) ?_); conv => whnf) | ((refine Cl.isAt 0 rfl (h3 _) ?_); conv => whnf))
  all_goals first | (exfalso; omega) | (refine Is.ent ?_ ?_; (focus (exact Ent.rfl)); (exact Is.rfl))
abbrev twoB2 (n : Int) : List UInt8 := [u8of n, u8of (n / 256)]
theorem Tryz.imgClient (b : Nat) (ws : List UInt8) (L : List HP) (hl : ws.length ≤ 800) :
    Con Tryz.prog 34 [pV b, clV ⟨128, 64, 1, 0, 2, 2, 0, 3, 0, 0⟩] (Tryz.wrH b ws :: L) (Is (.tuple #[]) (Tryz.wrH b (ws ++ twoB2 128 ++ twoB2 64 ++ [u8of 1] ++ twoB2 0 ++ [u8of 2] ++ [u8of 2] ++ [u8of 0] ++ [u8of 3] ++ twoB2 0 ++ [u8of 0]) :: L)) := by
  have h1 := fun L => Tryz.wrTwo b ws 128 L (by omega) (by omega)
  generalize e1 : ws ++ twoB2 128 = w1 at *
  have l1 : w1.length ≤ 810 := by rw [← e1, List.length_append]; simp; omega
  have h2 := fun L => Tryz.wrTwo b w1 64 L (by omega) (by omega)
  generalize e2 : w1 ++ twoB2 64 = w2 at *
  have l2 : w2.length ≤ 820 := by rw [← e2, List.length_append]; simp; omega
  have h3 := fun L => Tryz.wrByte b w2 1 L (by omega) (by omega)
  generalize e3 : w2 ++ [u8of 1] = w3 at *
  have l3 : w3.length ≤ 830 := by rw [← e3, List.length_append]; simp; omega
  have h4 := fun L => Tryz.wrTwo b w3 0 L (by omega) (by omega)
  generalize e4 : w3 ++ twoB2 0 = w4 at *
  have l4 : w4.length ≤ 840 := by rw [← e4, List.length_append]; simp; omega
  have h5 := fun L => Tryz.wrByte b w4 2 L (by omega) (by omega)
  generalize e5 : w4 ++ [u8of 2] = w5 at *
  have l5 : w5.length ≤ 850 := by rw [← e5, List.length_append]; simp; omega
  have h6 := fun L => Tryz.wrByte b w5 2 L (by omega) (by omega)
  generalize e6 : w5 ++ [u8of 2] = w6 at *
  have l6 : w6.length ≤ 860 := by rw [← e6, List.length_append]; simp; omega
  have h7 := fun L => Tryz.wrByte b w6 0 L (by omega) (by omega)
  generalize e7 : w6 ++ [u8of 0] = w7 at *
  have l7 : w7.length ≤ 870 := by rw [← e7, List.length_append]; simp; omega
  have h8 := fun L => Tryz.wrByte b w7 3 L (by omega) (by omega)
  generalize e8 : w7 ++ [u8of 3] = w8 at *
  have l8 : w8.length ≤ 880 := by rw [← e8, List.length_append]; simp; omega
  have h9 := fun L => Tryz.wrTwo b w8 0 L (by omega) (by omega)
  generalize e9 : w8 ++ twoB2 0 = w9 at *
  have l9 : w9.length ≤ 890 := by rw [← e9, List.length_append]; simp; omega
  have h10 := fun L => Tryz.wrByte b w9 0 L (by omega) (by omega)
  generalize e10 : w9 ++ [u8of 0] = w10 at *
  clear e1 e2 e3 e4 e5 e6 e7 e8 e9 e10
  refine con_of Tryz.tysOk Tryz.func34 rfl rfl ?_
  conv => whnf
  repeat' (first
    | ((with_reducible refine Nc.go' (fun _ => ?_)); conv => whnf)
    | (refine Ld.at 0 rfl rfl ?_; conv => whnf)
    | (first | ((refine Cl.isAt 1 rfl (h1 _) ?_); conv => whnf) | ((refine Cl.isAt 1 rfl (h2 _) ?_); conv => whnf) | ((refine Cl.isAt 1 rfl (h3 _) ?_); conv => whnf) | ((refine Cl.isAt 1 rfl (h4 _) ?_); conv => whnf) | ((refine Cl.isAt 1 rfl (h5 _) ?_); conv => whnf) | ((refine Cl.isAt 1 rfl (h6 _) ?_); conv => whnf) | ((refine Cl.isAt 1 rfl (h7 _) ?_); conv => whnf) | ((refine Cl.isAt 1 rfl (h8 _) ?_); conv => whnf) | ((refine Cl.isAt 1 rfl (h9 _) ?_); conv => whnf) | ((refine Cl.isAt 1 rfl (h10 _) ?_); conv => whnf)))
  all_goals first | (exfalso; omega) | (refine Is.ent ?_ ?_; (focus (refine FEnt.ent ?_; (repeat (first | exact FEnt.rfl | (refine FEnt.at 1 rfl ?_; (try simp only [List.eraseIdx_cons_zero, List.eraseIdx_cons_succ, List.eraseIdx_zero, List.tail_cons])) | refine FEnt.drop ?_)); done)); (exact Is.rfl))
/-- the tables' bytes -/
def bytes0 : List UInt8 := [67, 1, 20, 0, 2, 0, 0, 0, 4, 0, 1, 4, 0, 20, 0, 1, 1, 4, 0, 12, 0, 1, 128, 0, 64, 0, 1, 0, 0, 2, 2, 0, 3, 0, 0, 0]
theorem Tryz.imgPrint (C : Cfg) (L : List HP) (hC : isC0 C) (hw : Rd slE L C.wa C.ws) (hs : Rd slE L C.sa C.ss) (hc : Rd clE L C.ca C.xs) :
    Con Tryz.prog 12 [cfV C] L (Is (.tuple #[.string (sealB ⟨bytes0.toArray⟩), n64 0]) L) := by
  obtain ⟨F, wa, wc, W, sa, sc, S, ca, cc, X⟩ := C
  obtain ⟨rfl, rfl, rfl, rfl⟩ := hC
  dsimp only at hw hs hc
  change Con Tryz.prog 12 [.agg #[n64 20, .slice wa 2 wc, .slice sa 1 sc, .slice ca 1 cc]] L _
  have hn0 : Ad none ([] : List UInt8).length := fun h => absurd rfl h
  have by1 := fun b ws n L hl hn => Tryz.wrByte b ws n L hl hn
  have by2 := fun b ws n L hl hn => Tryz.wrTwo b ws n L hl hn
  have by3 := fun b ws o f t L hl ho hf ht => Tryz.imgRow b ws o f t L hl ho hf ht
  have by4 := fun b ws L hl => Tryz.imgClient b ws L hl
  have by5 := fun b ws L => Tryz.wrErr b ws L
  have by6 := fun b ws L => Tryz.wrBytes b ws L
  have hse : ∀ (u : List UInt8) (L : List HP), u = bytes0 → Con Tryz.prog 36 [.string ⟨u.toArray⟩] L (Is (.string (sealB ⟨bytes0.toArray⟩)) L) := fun u L e => by
    subst e
    exact Tryz.crcSeal ⟨bytes0.toArray⟩ L (by decide)
  generalize sealB ⟨bytes0.toArray⟩ = Z at *
  refine con_of Tryz.tysOk Tryz.func12 rfl rfl ?_
  conv => whnf
  repeat' (first
    | ((with_reducible refine Br.df ?_ ?_); (focus (first | assumption | omega)); conv => whnf)
    | ((with_reducible refine Nc.go' (fun _ => ?_)); conv => whnf)
    | (refine Ld.at 0 rfl rfl ?_; conv => whnf))
  all_goals try (exfalso; omega)
  rename_i b1 bw
  refine Cl.ent (M := Tryz.wrH bw [] :: ptc b1 28 [n64 20, .slice wa 2 wc, .slice sa 1 sc, .slice ca 1 cc] :: L) (by (refine FEnt.ent ?_; (repeat (first | exact FEnt.rfl | (refine FEnt.at 0 rfl ?_; (try simp only [List.eraseIdx_cons_zero, List.eraseIdx_cons_succ, List.eraseIdx_zero, List.tail_cons])) | (apply Tryz.wrShut) | refine FEnt.nil ?_ | rfl | assumption | ((simp only [List.length_set, List.length_append, List.length_take, List.length_drop, List.length_replicate, List.length_cons, List.length_nil]); omega))); done)) ?_
  conv => whnf
  repeat' (first
    | (refine Ld.at 1 rfl rfl ?_; conv => whnf)
    | (first | ((refine Cl.isAt 0 rfl (by1 _ _ _ _ (by decide) (by decide)) ?_); conv => whnf) | ((refine Cl.isAt 0 rfl (by2 _ _ _ _ (by decide) (by decide)) ?_); conv => whnf)))
  all_goals try (exfalso; omega)
  refine Lp.unr 3 (LpU.step Tryz.tysOk ?_)
  conv => whnf
  repeat' (first
    | ((with_reducible refine Br.dt ?_ ?_); (focus (first | assumption | omega)); conv => whnf)
    | ((with_reducible refine Ar.i64 ?_ ?_); (focus omega); conv => whnf)
    | ((with_reducible refine Nd.mk ?_ ?_); (focus (first | omega | rfl | assumption | (simp; done))); conv => whnf)
    | ((with_reducible refine Nc.go' (fun _ => ?_)); conv => whnf)
    | ((with_reducible refine Ix.ad ?_ ?_ ?_); (focus (exact Ad.mono (Rd.ad (by assumption)) (by ((simp only [List.length_append, List.length_cons, List.length_nil]); omega)))); (focus (omega)); conv => whnf)
    | (refine Ld.at 0 rfl rfl ?_; conv => whnf)
    | ((apply LdN.rd); (focus ((repeat (first | assumption | apply Rd.cons)); done)); (focus rfl); (focus rfl); (focus ((simp only [List.length_append, List.length_cons, List.length_nil]); omega)); conv => whnf)
    | (refine St.at 0 rfl (by first | exact Nat.le_of_ble_eq_true rfl | (simp; done)) rfl ?_; conv => whnf)
    | ((refine Cl.isAt 1 rfl (by3 _ _ _ _ _ _ (by decide) (by decide) (by decide) (by decide)) ?_); conv => whnf))
  all_goals try (exfalso; omega)
  refine LpU.step Tryz.tysOk ?_
  conv => whnf
  repeat' (first
    | ((with_reducible refine Br.dt ?_ ?_); (focus (first | assumption | omega)); conv => whnf)
    | ((with_reducible refine Ar.i64 ?_ ?_); (focus omega); conv => whnf)
    | ((with_reducible refine Nd.mk ?_ ?_); (focus (first | omega | rfl | assumption | (simp; done))); conv => whnf)
    | ((with_reducible refine Nc.go' (fun _ => ?_)); conv => whnf)
    | ((with_reducible refine Ix.ad ?_ ?_ ?_); (focus (exact Ad.mono (Rd.ad (by assumption)) (by ((simp only [List.length_append, List.length_cons, List.length_nil]); omega)))); (focus (omega)); conv => whnf)
    | (refine Ld.at 0 rfl rfl ?_; conv => whnf)
    | ((apply LdN.rd); (focus ((repeat (first | assumption | apply Rd.cons)); done)); (focus rfl); (focus rfl); (focus ((simp only [List.length_append, List.length_cons, List.length_nil]); omega)); conv => whnf)
    | (refine St.at 0 rfl (by first | exact Nat.le_of_ble_eq_true rfl | (simp; done)) rfl ?_; conv => whnf)
    | ((refine Cl.isAt 2 rfl (by3 _ _ _ _ _ _ (by decide) (by decide) (by decide) (by decide)) ?_); conv => whnf))
  all_goals try (exfalso; omega)
  refine LpU.step Tryz.tysOk ?_
  conv => whnf
  repeat' (first
    | ((with_reducible refine Br.df ?_ ?_); (focus (first | assumption | omega)); conv => whnf)
    | (refine Ld.at 3 rfl rfl ?_; conv => whnf)
    | ((refine Cl.isAt 2 rfl (by1 _ _ _ _ (by decide) (by decide)) ?_); conv => whnf))
  all_goals try (exfalso; omega)
  refine Lp.unr 2 (LpU.step Tryz.tysOk ?_)
  conv => whnf
  repeat' (first
    | ((with_reducible refine Br.dt ?_ ?_); (focus (first | assumption | omega)); conv => whnf)
    | ((with_reducible refine Ar.i64 ?_ ?_); (focus omega); conv => whnf)
    | ((with_reducible refine Nd.mk ?_ ?_); (focus (first | omega | rfl | assumption | (simp; done))); conv => whnf)
    | ((with_reducible refine Nc.go' (fun _ => ?_)); conv => whnf)
    | ((with_reducible refine Ix.ad ?_ ?_ ?_); (focus (exact Ad.mono (Rd.ad (by assumption)) (by ((simp only [List.length_append, List.length_cons, List.length_nil]); omega)))); (focus (omega)); conv => whnf)
    | (refine Ld.at 0 rfl rfl ?_; conv => whnf)
    | ((apply LdN.rd); (focus ((repeat (first | assumption | apply Rd.cons)); done)); (focus rfl); (focus rfl); (focus ((simp only [List.length_append, List.length_cons, List.length_nil]); omega)); conv => whnf)
    | (refine St.at 0 rfl (by first | exact Nat.le_of_ble_eq_true rfl | (simp; done)) rfl ?_; conv => whnf)
    | ((refine Cl.isAt 3 rfl (by3 _ _ _ _ _ _ (by decide) (by decide) (by decide) (by decide)) ?_); conv => whnf))
  all_goals try (exfalso; omega)
  refine LpU.step Tryz.tysOk ?_
  conv => whnf
  repeat' (first
    | ((with_reducible refine Br.df ?_ ?_); (focus (first | assumption | omega)); conv => whnf)
    | (refine Ld.at 4 rfl rfl ?_; conv => whnf)
    | ((refine Cl.isAt 3 rfl (by1 _ _ _ _ (by decide) (by decide)) ?_); conv => whnf))
  all_goals try (exfalso; omega)
  refine Lp.unr 2 (LpU.step Tryz.tysOk ?_)
  conv => whnf
  repeat' (first
    | ((with_reducible refine Br.dt ?_ ?_); (focus (first | assumption | omega)); conv => whnf)
    | ((with_reducible refine Ar.i64 ?_ ?_); (focus omega); conv => whnf)
    | ((with_reducible refine Nd.mk ?_ ?_); (focus (first | omega | rfl | assumption | (simp; done))); conv => whnf)
    | ((with_reducible refine Nc.go' (fun _ => ?_)); conv => whnf)
    | ((with_reducible refine Ix.ad ?_ ?_ ?_); (focus (exact Rd.ad (by assumption))); (focus (omega)); conv => whnf)
    | (first | ((apply LdN.rd); (focus ((repeat (first | assumption | apply Rd.cons)); done)); (focus rfl); (focus rfl); (focus ((simp only [List.length_append, List.length_cons, List.length_nil]); omega)); conv => whnf) | (refine LdN.at 0 rfl (by first | exact Nat.le_of_ble_eq_true rfl | (simp; done)) ?_; conv => whnf))
    | (refine St.at 0 rfl (by first | exact Nat.le_of_ble_eq_true rfl | (simp; done)) rfl ?_; conv => whnf)
    | ((refine Cl.isAt 4 rfl (by4 _ _ _ (by decide)) ?_); conv => whnf))
  all_goals try (exfalso; omega)
  refine LpU.step Tryz.tysOk ?_
  conv => whnf
  repeat' (first
    | (first | ((with_reducible refine Br.df ?_ ?_); (focus (first | assumption | omega)); conv => whnf) | ((with_reducible refine Br.ndf ?_ ?_); (focus (first | assumption | omega)); conv => whnf))
    | (first | ((refine Cl.isAt 4 rfl (by5 _ _ _) ?_); conv => whnf) | ((refine Cl.isAt 4 rfl (by6 _ _ _) ?_); conv => whnf) | ((with_reducible refine (?_ : Cl _ 36 _ _ _ _)); (refine Cl.is (hse _ _ (by decide)) ?_); conv => whnf)))
  all_goals try (exfalso; omega)
  all_goals (refine Is.ent ?_ ?_; (focus (refine FEnt.ent ?_; (repeat (first | exact FEnt.rfl | refine FEnt.drop ?_)); done)); (exact Is.rfl))
end Go.Proofs
set_option linter.all false
namespace Go.Proofs
open Go.Eng
set_option linter.unusedVariables false
set_option maxRecDepth 100000
set_option maxHeartbeats 4000000
theorem lt2 {i : Nat} (h : i < 2) : i = 0 ∨ i = 1 := by omega
theorem unN_one {C : Cfg} {o : Int} (h0 : 0 < C.ss.length) (hc : (cS C 0).1 = o ∧ goodS C (cS C 0)) : unN C o 1 = ((cS C 0).2.2 - (cS C 0).2.1) / 4 := by
  have h := unN_succ (o := o) h0
  rw [if_pos hc, show unN C o 0 = 0 by simp [unN], Int.zero_add] at h
  exact h
theorem c0_right {C : Cfg} (h : isC0 C) : Right C := by
  obtain ⟨F, wa, wc, W, sa, sc, S, ca, cc, X⟩ := C
  obtain ⟨rfl, rfl, rfl, rfl⟩ := h
  have hf : frF ⟨20, wa, wc, [(0, 0, 4), (1, 4, 20)], sa, sc, [(1, 4, 12)], ca, cc, [⟨128, 64, 1, 0, 2, 2, 0, 3, 0, 0⟩]⟩ := by
    show (1 : Int) ≤ 20 ∧ (20 : Int) ≤ 4096 ∧ 1 ≤ 1 ∧ 1 ≤ 8 ∧ 2 ≤ 9 ∧ 1 ≤ 32
    decide
  have hg : goodC (⟨128, 64, 1, 0, 2, 2, 0, 3, 0, 0⟩ : Cli) := by decide
  have h0 : ∀ i, i < 1 → i = 0 := fun i hi => by omega
  refine ⟨hf, fun i hi => ?_, fun i hi => ?_, fun i hi => ?_, fun i hi => ?_, fun o ho => ?_, ?_, fun i hi => ?_, fun i hi => ?_, fun i hi => ?_⟩
  · obtain rfl := h0 i hi
    exact fun hn => hn hg
  · obtain rfl := h0 i hi
    exact fun ⟨_, j, hj, _⟩ => absurd hj (Nat.not_lt_zero j)
  · rcases lt2 hi with rfl | rfl
    · refine fun hn => hn ?_
      show ((0 : Int) ≤ 0 ∧ (0 : Int) ≤ 1) ∧ ((0 : Int) ≤ 0 ∧ (0 : Int) < 4) ∧ (4 : Int) ≤ 20
      decide
    · refine fun hn => hn ?_
      show ((0 : Int) ≤ 1 ∧ (1 : Int) ≤ 1) ∧ ((0 : Int) ≤ 4 ∧ (4 : Int) < 20) ∧ (20 : Int) ≤ 20
      decide
  · rcases lt2 hi with rfl | rfl
    · exact fun ⟨j, hj, _⟩ => absurd hj (Nat.not_lt_zero j)
    · rintro ⟨j, hj, hm⟩
      obtain rfl : j = 0 := by omega
      have hm : (((0 : Int) ≤ 4 ∧ (4 : Int) < 20) ∧ ((0 : Int) ≤ 0 ∧ (0 : Int) < 4) ∧ (4 : Int) < 4 ∧ (0 : Int) < 20) ∨ (1 : Int) = 0 := hm
      revert hm
      decide
  · rcases lt2 (show o < 2 from ho) with rfl | rfl
    · exact fun hn => hn ⟨0, by show 0 < 2; omega, rfl⟩
    · exact fun hn => hn ⟨1, by show 1 < 2; omega, rfl⟩
  · rintro ⟨k, hk, h1, h2, h3, h4⟩
    rcases lt2 (show k < 2 from hk) with rfl | rfl
    · have h4 : (4 : Int) - 0 < 2 * 1 := h4
      revert h4
      decide
    · have h1 : (1 : Int) = 0 := h1
      revert h1
      decide
  · obtain rfl := h0 i hi
    refine fun hn => hn ?_
    show ((1 : Int) ≤ 1 ∧ (1 : Int) ≤ 1) ∧ (((0 : Int) ≤ 4 ∧ (4 : Int) < 12) ∧ (12 : Int) ≤ 20) ∧ (4 : Int) ≤ 12 - 4
    decide
  · obtain rfl := h0 i hi
    exact fun ⟨j, hj, _⟩ => absurd hj (Nat.not_lt_zero j)
  · obtain rfl := h0 i hi
    intro hn
    unfold b10 unF at hn
    rw [if_pos hf] at hn
    have hc : (1 : Int) = ((0 : Nat) : Int) + 1 ∧ ((1 : Int) ≤ 1 ∧ (1 : Int) ≤ 1) ∧ (((0 : Int) ≤ 4 ∧ (4 : Int) < 12) ∧ (12 : Int) ≤ 20) ∧ (4 : Int) ≤ 12 - 4 := by decide
    have h2 : unN ⟨20, wa, wc, [(0, 0, 4), (1, 4, 20)], sa, sc, [(1, 4, 12)], ca, cc, [⟨128, 64, 1, 0, 2, 2, 0, 3, 0, 0⟩]⟩ (((0 : Nat) : Int) + 1) 1 = ((12 : Int) - 4) / 4 := unN_one (by show 0 < 1; omega) hc
    have hn : unN ⟨20, wa, wc, [(0, 0, 4), (1, 4, 20)], sa, sc, [(1, 4, 12)], ca, cc, [⟨128, 64, 1, 0, 2, 2, 0, 3, 0, 0⟩]⟩ (((0 : Nat) : Int) + 1) 1 < 2 := hn
    rw [h2] at hn
    revert hn
    decide
/-- the image -/
def img0 : ByteArray := sealB ⟨bytes0.toArray⟩
theorem img0_size : img0.size = 38 := by decide +kernel
theorem img0_cut : cutB img0 = ⟨bytes0.toArray⟩ := by decide +kernel
theorem img0_E : imgE img0 = 0 := by
  have h2 : ¬ img0.size < 2 := by rw [img0_size]; decide
  unfold imgE
  rw [if_neg h2, img0_cut, if_pos (show sealB ⟨bytes0.toArray⟩ = img0 from rfl)]
  have a1 : l1 ⟨bytes0.toArray⟩ = 2 := by decide +kernel
  have a2 : l2 ⟨bytes0.toArray⟩ = 1 := by unfold l2; rw [a1]; decide +kernel
  have a3 : l3 ⟨bytes0.toArray⟩ = 1 := by unfold l3; rw [a1, a2]; decide +kernel
  have a4 : (⟨bytes0.toArray⟩ : ByteArray).size = 36 := by decide +kernel
  have hf : fits ⟨bytes0.toArray⟩ := by
    unfold fits
    rw [a1, a2, a3, a4]
    decide
  unfold prsE
  rw [if_neg (fun h => h.2 (by decide +kernel)), if_neg (fun h => h hf), a1, a2, a3, a4]
  rfl
theorem img0_tb {C : Cfg} (h : TbIs img0 C) : isC0 C := by
  have a1 : l1 ⟨bytes0.toArray⟩ = 2 := by decide +kernel
  have a2 : l2 ⟨bytes0.toArray⟩ = 1 := by unfold l2; rw [a1]; decide +kernel
  have a3 : l3 ⟨bytes0.toArray⟩ = 1 := by unfold l3; rw [a1, a2]; decide +kernel
  obtain ⟨h1, h2, h3, h4⟩ := h
  rw [img0_cut] at h1 h2 h3 h4
  rw [a1] at h2 h3 h4
  rw [a2] at h3 h4
  rw [a3] at h4
  refine ⟨h1.trans (by decide +kernel), h2.trans (by decide +kernel), h3.trans (by decide +kernel), h4.trans (by kernel_rfl)⟩
theorem img0_boot : bootE img0 = 0 := by
  unfold bootE
  rw [if_pos img0_E, if_pos (c0_right (img0_tb ⟨rfl, rfl, rfl, rfl⟩))]
end Go.Proofs
