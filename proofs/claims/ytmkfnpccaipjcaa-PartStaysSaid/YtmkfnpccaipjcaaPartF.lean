/- The partition's laws: results, plays. -/
import Derived.Test.YtmkfnpccaipjcaaPartE
set_option linter.all false
namespace Go.Proofs
open Go.Eng
set_option linter.unusedVariables false
set_option maxRecDepth 100000
set_option maxHeartbeats 2000000
def pliveS : ByteArray := ⟨#[14, 2, 1, 0]⟩
def pliveM : Mch := ⟨lay (zeros 40) 0 pliveS.data.toList, 0, fun _ => 0, 0⟩
theorem plive_1 : pstL pliveM (70000, 0, 0, 0, 0) = [(70000, 3, 1, 4464, 0, ⟨#[]⟩)] := by kernel_rfl
theorem plive_2 : pstB pliveM = false := by kernel_rfl
theorem plive_3 : (pstF pliveM (70000, 0, 0, 0, 0)).r 2 = 4464 := by kernel_rfl
theorem Try.partLive (L : List HP) : Con Try.prog 7 [] L (Is (.bool true) L) := by
  have hok : Mok pliveM := ⟨fun i => ⟨by show (-9223372036854775808 : Int) ≤ 0; decide, by show (0 : Int) ≤ 9223372036854775807; decide⟩, ⟨by decide, by decide⟩, by decide⟩
  have hnw := fun L => Try.memNewP 300 200 40 60 L rfl (by omega)
  have hpn := fun b L => Try.parNew b (zeros 200) (zeros 40) (zeros 60) 200 40 3 pliveS L rfl rfl (by decide) ⟨by omega, by omega⟩ (by decide)
  have hps := fun bp b L => Try.parStep bp b (zeros 200) (zeros 60) 200 40 3 (70000, 0, 0, 0, 0) pliveM L rfl rfl (by decide) hok ⟨⟨by decide, by decide⟩, ⟨by decide, by decide⟩, ⟨by decide, by decide⟩, ⟨by decide, by decide⟩, ⟨by decide, by decide⟩⟩
  rw [plive_1, plive_2] at hps
  have e0 : pliveM = ⟨lay (zeros 40) 0 pliveS.data.toList, 0, fun _ => 0, 0⟩ := rfl
  rw [← e0] at hpn
  have e1 : lay (zeros 40) 0 pliveS.data.toList = pliveM.V := rfl
  rw [e1] at hpn
  have h3 := plive_3
  generalize zeros 200 = Z1 at *
  generalize zeros 40 = Z2 at *
  generalize zeros 60 = Z3 at *
  generalize pstF pliveM (70000, 0, 0, 0, 0) = T at *
  generalize pliveM = M0 at *
  refine con_of Try.tysOk Try.func7 rfl rfl ?_
  conv => whnf
  repeat' (first
    | (first | ((with_reducible refine Br.tt ?_); conv => whnf) | ((with_reducible refine Br.ff ?_); conv => whnf) | ((with_reducible refine Br.nf ?_); conv => whnf) | ((with_reducible refine Br.dt ?_ ?_); (focus (first | assumption | omega)); conv => whnf) | ((with_reducible refine Br.yes ?_ ?_); (focus (first | (simp; done) | (simp; omega))); conv => whnf))
    | ((with_reducible refine Nd.mk ?_ ?_); (focus (first | omega | rfl | assumption | (simp; done))); conv => whnf)
    | ((with_reducible refine Nc.go' (fun _ => ?_)); conv => whnf)
    | ((with_reducible refine Ix.arr ?_ ?_); (focus (omega)); conv => whnf)
    | ((with_reducible refine Ix.ad ?_ ?_ ?_); (focus (assumption)); (focus ((simp only [List.length_append, List.length_cons, List.length_nil]); omega)); conv => whnf)
    | (refine Ld.reg 0 rfl ?_ ?_; (focus (omega)); conv => whnf)
    | ((apply LdN.rd); (focus ((repeat ((refine Rd.own 1 rfl ?_); (assumption))); done)); (focus rfl); (focus rfl); (focus ((simp only [List.length_append, List.length_cons, List.length_nil]); omega)); conv => whnf)
    | (refine St.at 0 rfl (by first | exact Nat.le_of_ble_eq_true rfl | (simp; done)) rfl ?_; conv => whnf)
    | (first | ((with_reducible refine (?_ : Cl _ 12 _ _ _ _)); (refine Cl.exs (hnw _) (fun bm _ => ?_)); conv => whnf) | ((refine Cl.exsAt2 0 rfl (fun M => hpn _ M) ?_); (conv => whnf); rintro bp -; conv => whnf) | (apply (Cl.pre [ptc bp _ _, Try.memH _ _]); (focus ((repeat (first | exact FEnt.rfl | (refine FEnt.at 1 rfl ?_; (try simp only [List.eraseIdx_cons_zero, List.eraseIdx_cons_succ, List.eraseIdx_zero, List.tail_cons])) | (refine FEnt.at 2 rfl ?_; (try simp only [List.eraseIdx_cons_zero, List.eraseIdx_cons_succ, List.eraseIdx_zero, List.tail_cons])))); done)); refine Cl.exs (hps _ _ _) ?_; rintro ⟨a5, c5⟩ ⟨hc5, had5⟩; conv => whnf) | ((refine Cl.isAt 1 rfl (Try.parState _ _ _ _ _ _ _) ?_); conv => whnf) | ((refine Cl.isAt 2 rfl (Try.parOwner _ _ _ _ _ _ _) ?_); conv => whnf))
    | ((with_reducible refine Br.ds (fun _ => ?_) (fun _ => ?_) ) <;> (conv => whnf)))
  all_goals (refine Is.ent ?_ ?_; (focus (refine FEnt.ent ?_; (repeat (first | exact FEnt.rfl | refine FEnt.drop ?_)); done)); (first | exact Is.rfl | exact Is.ff (by omega)))
theorem Try.partResultsLaw (n : Int) (f : Fct) (L : List HP) (hf : fctI f) : Con Try.prog 3 [i64W n, fctV f] L (Is (.bool true) L) := by
  refine con_of Try.tysOk Try.func3 rfl rfl ?_
  conv => whnf
  repeat' (first
    | ((with_reducible refine Br.tt ?_); conv => whnf)
    | ((with_reducible refine Nc.go' (fun _ => ?_)); conv => whnf)
    | (refine LdN.at 0 rfl (by first | exact Nat.le_of_ble_eq_true rfl | (simp; done)) ?_; conv => whnf)
    | ((with_reducible refine Dr.by (id := 1) Try.tysOk rfl [(0, 1), (1, 0), (2, 0), (5, 0), (3, 1), (4, 1), (6, 1), (7, 1), (8, 1), (9, 0), (10, 0), (11, 0)] ?_ ?_); (focus kernel_rfl); conv => whnf)
    | (first | ((with_reducible refine CD.is (fun M => Try.partLive _) ?_); conv => whnf) | ((with_reducible refine CD.is (fun M => Try.partResult _ _ _ hf) ?_); conv => whnf) | ((with_reducible refine CD.is (fun M => Try.refResult _ _ _ hf) ?_); conv => whnf) | ((with_reducible refine CD.is (fun M => Try.lawFacts _ _) ?_); conv => whnf)))
  all_goals (refine Is.ent ?_ ?_; (focus (refine FEnt.ent ?_; (repeat (first | exact FEnt.rfl | refine FEnt.drop ?_)); done)); (exact Is.ttr (by first | assumption | omega)))
end Go.Proofs
