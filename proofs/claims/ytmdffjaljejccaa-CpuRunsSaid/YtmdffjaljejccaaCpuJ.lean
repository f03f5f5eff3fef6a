/- The processor's laws: what they begin with. -/
import Derived.Test.YtmdffjaljejccaaCpuI
import Derived.Test.YtmdffjaljejccaaEngMorf
set_option linter.all false
namespace Go.Proofs
open Go.Eng
set_option linter.unusedVariables false
set_option maxRecDepth 100000
set_option maxHeartbeats 8000000
/-- a program, at the head of so many bytes -/
def startV (s : ByteArray) (N : Nat) : List UInt8 := lay (zeros N) 0 (s.extract 0 (min (s.size : Int) (N : Int)).toNat).data.toList
theorem startV_len (s : ByteArray) (N : Nat) : (startV s N).length = N := by
  unfold startV
  rw [lay_len (by rw [extract_list, List.drop_zero, List.length_take, size_list, List.length_replicate]; omega), List.length_replicate]
theorem zeros_parts {n B N R : Nat} (h : n = B + N + R) : zeros n = zeros B ++ zeros N ++ zeros R := by
  subst h
  simp [zeros, List.replicate_append_replicate]
theorem Try.memNewP (n : Int) (B N R : Nat) (L : List HP) (hn : n = (B + N + R : Nat)) (h : n ≤ 16384) :
    Con Try.prog 19 [i64V n] L (Exs pV (fun b => Try.memH b (zeros B ++ zeros N ++ zeros R) :: L) (fun _ => True)) := by
  have := Try.memNew n L ⟨by omega, by omega⟩
  rw [zeros_parts (B := B) (N := N) (R := R) (by omega)] at this
  exact this
theorem Try.memPutP (b : Nat) (B N R : Nat) (at_ : Int) (s : ByteArray) (L : List HP) (hl : B + N + R ≤ 16384) (ha : at_ = B) (h : s.size ≤ N) :
    Con Try.prog 20 [pV b, i64V at_, .string s] (Try.memH b (zeros B ++ zeros N ++ zeros R) :: L) (Is (i64V 0) (Try.memH b (zeros B ++ lay (zeros N) 0 s.data.toList ++ zeros R) :: L)) := by
  have hB : (zeros B).length = B := List.length_replicate
  have hN : (zeros N).length = N := List.length_replicate
  have hR : (zeros R).length = R := List.length_replicate
  have hlen : (zeros B ++ zeros N ++ zeros R).length = B + N + R := by rw [List.length_append, List.length_append, hB, hN, hR]
  rw [← mid_lay (by rw [size_list]; omega)]
  exact Try.memPut b _ ((zeros B).length + 0) _ s L (by omega) (by omega) (by omega)
theorem Try.lawView (s : ByteArray) (base size : Int) (B N : Nat) (L : List HP) (hb : base = B) (hB : B ≤ 500) (hs : size = N) (hN : N ≤ 400) (hl : s.size ≤ 400) :
    Con Try.prog 8 [.string s, i64W base, i64W size] L
      (Exs (fun y : Nat × Option Addr × Nat => .tuple #[pV y.1, viewV y.1 base size, .slice y.2.1 (ints (startV s N)).length y.2.2])
        (fun y => Try.memH y.1 (zeros B ++ startV s N ++ zeros (1000 - B - N)) :: own intE 3 y.2.1 y.2.2 (ints (startV s N)) :: L) (fun y => (ints (startV s N)).length ≤ y.2.2 ∧ Ad y.2.1 (ints (startV s N)).length)) := by
  subst hs
  have hzN : (zeros N).length = N := List.length_replicate
  have hN0 : (zeros (min (max (N : Int) 0) 16384).toNat) = zeros N := by rw [show (min (max (N : Int) 0) 16384).toNat = N from by omega]
  have hex := extract_size s 0 (min (s.size : Int) (N : Int)).toNat (by omega) (by omega)
  have hsl := size_list (s.extract 0 (min (s.size : Int) (N : Int)).toNat)
  have hil := ints_len (s.extract 0 (min (s.size : Int) (N : Int)).toNat).data.toList
  have hw : ∀ a' c' a c L, Rd intE L a (ints (zeros N)) → Rd intE L a' (ints (s.extract 0 (min (s.size : Int) (N : Int)).toNat).data.toList) → Con Try.prog 22 [.slice a (ints (zeros N)).length c, i64V 0, .slice a' (ints (s.extract 0 (min (s.size : Int) (N : Int)).toNat).data.toList).length c'] L (New intE 3 (ints (startV s N)) L) := fun a' c' a c L h1 h2 =>
    Try.refWithB a a' c c' 0 0 (zeros N) (s.extract 0 (min (s.size : Int) (N : Int)).toNat).data.toList _ L (by omega) rfl (by omega) h1 h2 (fun x hx => by obtain ⟨u, _, rfl⟩ := List.mem_map.1 hx; exact u8I u) (by rw [← ints_u8of, u8of_ints])
  have hnr := Try.refNew (N : Int)
  rw [hN0] at hnr
  have hp := fun b L => Try.memPutP b B N (1000 - B - N) base (s.extract 0 (min (s.size : Int) (N : Int)).toNat) L (by omega) hb (by omega)
  have hv : lay (zeros N) 0 (s.extract 0 (min (s.size : Int) (N : Int)).toNat).data.toList = startV s N := rfl
  rw [hv] at hp
  refine con_of Try.tysOk Try.func8 rfl rfl ?_
  conv => whnf
  repeat' (first
    | ((with_reducible refine Nd.mk ?_ ?_); (focus (first | omega | rfl | assumption | (simp; done))); conv => whnf)
    | ((with_reducible refine Nc.go' (fun b => ?_)); conv => whnf)
    | ((with_reducible refine SubS.pre ?_ ?_); (focus (omega)); conv => whnf)
    | (refine LdN.at 4 rfl (by first | exact Nat.le_of_ble_eq_true rfl | (simp; done)) ?_; conv => whnf)
    | (refine St.at 4 rfl (by first | exact Nat.le_of_ble_eq_true rfl | (simp; done)) rfl ?_; conv => whnf)
    | (first | ((with_reducible refine Cl.new (hnr _ ⟨by omega, by omega⟩) (fun _ _ _ _ => ?_)); conv => whnf) | ((with_reducible refine Cl.new (Try.refBytes _ _ (by omega)) (fun _ _ _ _ => ?_)); conv => whnf) | ((refine Cl.isAt 0 rfl (hp _ _) ?_); conv => whnf))
    | ((refine Cl.new (hw _ _ _ _ _ (by ((repeat (first | ((refine Rd.own 1 rfl ?_); (assumption)) | apply Rd.cons)); done)) (by ((repeat (first | ((refine Rd.own 0 rfl ?_); (assumption)) | apply Rd.cons)); done))) (fun _ _ _ _ => ?_)); conv => whnf)
    | ((refine Cl.exs (Try.memNewP 1000 B N (1000 - B - N) _ (by omega) (by omega)) (fun bm _ => ?_)); conv => whnf))
  all_goals (rename_i a3 c3 hc3 had3 _; exact Exs.of (_, a3, c3) (by dsimp only; (refine FEnt.ent ?_; (repeat (first | exact FEnt.rfl | (refine FEnt.at 0 rfl ?_; (try simp only [List.eraseIdx_cons_zero, List.eraseIdx_cons_succ, List.eraseIdx_zero, List.tail_cons])) | refine FEnt.drop ?_)); done)) ⟨hc3, had3⟩ rfl)
/-- the program that is tried whatever is asked -/
def liveS : ByteArray := ⟨#[1, 1, 7, 0, 3, 1, 1, 0, 0, 0, 0, 0]⟩
def liveM : Mch := ⟨lay (zeros 12) 0 liveS.data.toList, 0, fun _ => 0, 0⟩
theorem live_1 : (runS 9 liveM).r 1 = 14 := by kernel_rfl
theorem live_2 : (runS 9 liveM).pc = 8 := by kernel_rfl
theorem live_3 : (runS 9 liveM).m = 2 := by kernel_rfl
theorem live_4 : (runL 9 liveM).length = 3 := by kernel_rfl
theorem live_5 : ((runL 9 liveM).getD (Int.toNat 2) outE.d).1 = 4 := by kernel_rfl
theorem Try.cpuLive (L : List HP) : Con Try.prog 7 [] L (Is (.bool true) L) := by
  have h1 := live_1
  have h2 := live_2
  have h3 := live_3
  have h4 := live_4
  have h5 := live_5
  have hp := fun b L => Try.memPutP b 130 12 58 130 liveS L (by omega) rfl (by decide)
  have hr := fun b L => Try.cpuRun b (zeros 130) (zeros 58) 130 12 9 liveM L rfl rfl (by decide) ⟨fun i => ⟨by show (-9223372036854775808 : Int) ≤ 0; decide, by show (0 : Int) ≤ 9223372036854775807; decide⟩, ⟨by decide, by decide⟩, by decide⟩ (by omega)
  have e9 : Int.toNat 9 = 9 := rfl
  rw [e9] at hr
  have e0 : lay (zeros 12) 0 liveS.data.toList = liveM.V := rfl
  rw [e0] at hp
  generalize runL 9 liveM = R at *
  generalize runS 9 liveM = T at *
  refine con_of Try.tysOk Try.func7 rfl rfl ?_
  conv => whnf
  repeat' (first
    | (first | ((with_reducible refine Br.tt ?_); conv => whnf) | ((with_reducible refine Br.dt ?_ ?_); (focus (first | assumption | omega)); conv => whnf))
    | ((with_reducible refine Nd.mk ?_ ?_); (focus (first | omega | rfl | assumption | (simp; done))); conv => whnf)
    | ((with_reducible refine Nc.go' (fun b => ?_)); conv => whnf)
    | ((with_reducible refine Ix.arr ?_ ?_); (focus (omega)); conv => whnf)
    | ((with_reducible refine Ix.ad ?_ ?_ ?_); (focus (assumption)); (focus (omega)); conv => whnf)
    | (first | ((apply Ld.rd0); (focus ((repeat ((refine Rd.own 1 rfl ?_); (assumption))); done)); (focus rfl); (focus (omega)); (focus rfl); conv => whnf) | (refine Ld.reg 0 rfl ?_ ?_; (focus (omega)); conv => whnf) | (refine Ld.at 0 rfl rfl ?_; conv => whnf))
    | (refine St.at 0 rfl (by first | exact Nat.le_of_ble_eq_true rfl | (simp; done)) rfl ?_; conv => whnf)
    | (first | ((refine Cl.isAt 0 rfl (hp _ _) ?_); conv => whnf) | ((refine Cl.exsAt2 0 rfl (fun M => hr _ M) ?_); (conv => whnf); rintro ⟨a3, c3⟩ ⟨hc3, had3⟩; conv => whnf))
    | ((refine Cl.exs (Try.memNewP 200 130 12 58 _ rfl (by omega)) (fun bm _ => ?_)); conv => whnf))
  all_goals (refine Is.ent ?_ ?_; (focus (refine FEnt.ent ?_; (repeat (first | exact FEnt.rfl | refine FEnt.drop ?_)); done)); (exact Is.ttr (by first | assumption | omega)))
end Go.Proofs
