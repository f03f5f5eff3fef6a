/- A short program's listing, written out. -/
import Derived.Test.YtloaknocdnpedaaGreatDoorDisC
set_option linter.all false
namespace Go.Proofs
open Go.Eng Go.RowKit
open Classical
set_option linter.unusedVariables false
set_option maxRecDepth 100000
set_option maxHeartbeats 4000000
def insE : Enc (Int × Int × Int) := ⟨3, fun y => [u8W y.1, i64W y.2.1, i64W y.2.2], (0, 0, 0), fun _ => rfl, by omega, fun _ => rfl⟩
abbrev jump4 : ByteArray := ⟨#[106, 117, 109, 112, 32, 52, 10]⟩
theorem dec4 : Lib.decDigits 4 = [52] := Lib.decDigits_one (i := 4) (by decide)
theorem dec7 : Lib.decDigits 7 = [55] := Lib.decDigits_one (i := 7) (by decide)
theorem join4 : Lib.join (([(⟨#[106, 117, 109, 112]⟩ : ByteArray)] ++ [(⟨#[52]⟩ : ByteArray)]).map (·.data.toList)) (⟨#[32]⟩ : ByteArray).data.toList = [106, 117, 109, 112, 32, 52] := by
  simp only [List.cons_append, List.nil_append, List.map_cons, List.map_nil, Lib.join_cons, Lib.joinTail, List.flatten_cons, List.flatten_nil]
theorem Tryz.asmPrint4 (a : Option Addr) (L : List HP) (hr : Rd insE L a [(11, 0, 4)]) :
    Con Tryz.prog 32 [.slice a 1 1] L (Is (.string jump4) L) := by
  have hmy := fun L => Con.dt (by decide : mayI 11 0 4) (Tryz.codeMay 11 0 4 L (by decide))
  have hnm := fun L => Tryz.codeName 11 L (by decide)
  rw [show nameF 11 = ⟨#[106, 117, 109, 112]⟩ from by decide] at hnm
  have hrg := fun L => Con.df (by decide : ¬ (2 ≤ (11 : Int) ∧ (11 : Int) ≤ 10)) (Tryz.codeRegister 11 L)
  have hit := fun L => Tryz.itoaSmall 4 (by decide) L
  rw [dec4] at hit
  have hj := fun a c L h hc => Tryz.join a c ([(⟨#[106, 117, 109, 112]⟩ : ByteArray)] ++ [(⟨#[52]⟩ : ByteArray)]) ⟨#[32]⟩ L h (by decide) hc (by decide) (by rw [join4]; decide)
  rw [join4] at hj
  have hz1 : (⟨[106, 117, 109, 112, 32, 52].toArray⟩ : ByteArray).size = 6 := rfl
  have hz2 : (⟨#[10]⟩ : ByteArray).size = 1 := rfl
  refine con_of Tryz.tysOk Tryz.func32 rfl rfl ?_
  conv => whnf
  repeat' ((with_reducible refine Nc.go' (fun _ => ?_)); conv => whnf)
  rename_i b3
  conv => whnf
  refine Lp.by2 Tryz.tysOk [9] (fun (k : Nat) (xs : List UInt8) => [.int .i64 k]) (fun k xs => Tryz.bldH b3 xs :: L) (fun k xs => (k = 0 ∧ xs = []) ∨ (k = 1 ∧ xs = [106, 117, 109, 112, 32, 52, 10])) (fun k xs => 1 - k) (0) ([]) (by kernel_rfl) (by (refine FEnt.ent ?_; (repeat (first | exact FEnt.rfl | (apply Tryz.bldShutN))); done)) (.inl ⟨rfl, rfl⟩) ?_
  rintro k xs g
  conv => whnf
  repeat (intro _; conv => whnf)
  rcases g with ⟨rfl, rfl⟩ | ⟨rfl, rfl⟩
  · conv => whnf
    repeat' (first
      | (first | ((with_reducible refine Br.tt ?_); conv => whnf) | ((with_reducible refine Br.ff ?_); conv => whnf) | ((with_reducible refine Br.nt ?_); conv => whnf) | ((with_reducible refine Br.dt ?_ ?_); (focus (first | assumption | omega)); conv => whnf) | ((with_reducible refine Br.yes ?_ ?_); (focus (first | (simp; done) | (simp; omega))); conv => whnf) | ((with_reducible refine Br.no ?_ ?_); (focus (first | (simp; done) | (simp; omega))); conv => whnf))
      | ((with_reducible refine Ar.i64 ?_ ?_); (focus omega); conv => whnf)
      | ((with_reducible refine Nd.mk ?_ ?_); (focus (first | omega | rfl | assumption | (simp; done))); conv => whnf)
      | ((with_reducible refine Nc.go' (fun _ => ?_)); conv => whnf)
      | ((with_reducible refine Ix.ad ?_ ?_ ?_); (focus (exact Rd.ad (by assumption))); (focus (omega)); conv => whnf)
      | (first | (refine Ld.at 0 rfl rfl ?_; conv => whnf) | (refine Ld.at 1 rfl rfl ?_; conv => whnf))
      | (first | ((with_reducible apply LdN.rdk); (focus ((repeat (first | assumption | apply Rd.cons)); done)); (focus rfl); (focus rfl); (focus ((simp only [List.length_append, List.length_cons, List.length_nil]); omega)); conv => whnf) | (refine LdN.at 0 rfl (by first | exact Nat.le_of_ble_eq_true rfl | (simp; done)) ?_; conv => whnf))
      | (refine St.at 0 rfl (by first | exact Nat.le_of_ble_eq_true rfl | (simp; done)) rfl ?_; conv => whnf)
      | (first | ((with_reducible refine (?_ : Cl _ 50 _ _ _ _)); (refine Cl.is (hmy _) ?_); conv => whnf) | ((with_reducible refine (?_ : Cl _ 53 _ _ _ _)); (refine Cl.is (hnm _) ?_); conv => whnf) | ((with_reducible refine (?_ : Cl _ 54 _ _ _ _)); (refine Cl.is (hrg _) ?_); conv => whnf) | ((with_reducible refine (?_ : Cl _ 31 _ _ _ _)); (refine Cl.is (hit _) ?_); conv => whnf) | ((with_reducible refine (?_ : Cl _ 55 _ _ _ _)); (refine Cl.is (hj _ _ _ (by ((repeat ((refine Rd.own 0 rfl ?_); (assumption))); done)) (by assumption)) ?_); conv => whnf) | ((refine Cl.isAt 3 rfl (Tryz.bldWrite b3 _ _ _ (by decide)) ?_); conv => whnf))
      | ((with_reducible refine (?_ : Sm _ (Builtin.append_ _ _ _) _ _)); ((with_reducible_and_instances apply (Sm.appLit (E := strE) (et := 9) Tryz.tysOk 1 rfl [_] rfl)); (rotate_left; (focus (exact Rd.ptc 0 rfl [_] rfl)); rotate_right; (focus rfl)); (focus rfl); (focus rfl); (focus rfl); (focus rfl); (focus rfl); (focus rfl); (focus rfl); (focus rfl); (focus ((simp only [List.length_append, List.length_cons, List.length_nil]); omega)); (intro _ _ _ _); conv => whnf)))
    all_goals exact ⟨1, [106, 117, 109, 112, 32, 52, 10], by kernel_rfl, by (refine FEnt.ent ?_; (repeat (first | exact FEnt.rfl | (refine FEnt.at 3 rfl ?_; (try simp only [List.eraseIdx_cons_zero, List.eraseIdx_cons_succ, List.eraseIdx_zero, List.tail_cons])) | refine FEnt.drop ?_)); done), .inr ⟨rfl, rfl⟩, by omega⟩
  · conv => whnf
    repeat' (first
      | ((with_reducible refine Br.df ?_ ?_); (focus (first | assumption | omega)); conv => whnf)
      | ((with_reducible refine Cl.is (Tryz.bldString b3 _ _) ?_); conv => whnf))
    all_goals (refine Is.ent ?_ ?_; (focus (exact Ent.rfl)); (exact Is.rfl))
theorem last4 : Lib.lastIndexByte jump4 32 = 4 := by decide +kernel
theorem Tryz.lastB (L : List HP) : Con Tryz.prog 33 [.string jump4, .int .u8 32] L (Is (i64W 4) L) :=
  Con.lib ⟨_, Tryz.func33, by kernel_rfl, by kernel_rfl⟩ fun w s => (Tryz.strings_LastIndexByte jump4 32 (by decide) w).mono fun e w' h => ⟨by rw [h.1, last4], by rw [h.2]; exact Below.refl _ _⟩
theorem nm4 : nmS 4 = ⟨#[101]⟩ := by
  unfold nmS
  rw [if_pos (by decide), show (4 : Int).toNat = 4 from rfl, nm_low (by decide)]
  rfl
theorem Tryz.disLine1 (b : Nat) (L : List HP) : Con Tryz.prog 15 [pcV p1, .map (some b)] L (Is (.string ⟨#[98, 121, 116, 101, 32, 55, 10]⟩) L) := by
  have hit := fun L => Tryz.itoaSmall 7 (by decide) L
  rw [dec7] at hit
  have hz1 : (⟨#[98, 121, 116, 101, 32]⟩ : ByteArray).size = 5 := rfl
  have hz2 : (⟨[55].toArray⟩ : ByteArray).size = 1 := rfl
  have hz3 : ((⟨#[98, 121, 116, 101, 32]⟩ : ByteArray) ++ (⟨[55].toArray⟩ : ByteArray)).size = 6 := rfl
  have hz4 : (⟨#[10]⟩ : ByteArray).size = 1 := rfl
  refine con_of Tryz.tysOk Tryz.func15 rfl rfl ?_
  conv => whnf
  repeat' (first
    | ((with_reducible refine Br.nf ?_); conv => whnf)
    | ((with_reducible refine Nd.mk ?_ ?_); (focus (first | omega | rfl | assumption | (simp; done))); conv => whnf)
    | ((with_reducible refine Nc.go' (fun _ => ?_)); conv => whnf)
    | (refine Ld.at 0 rfl rfl ?_; conv => whnf)
    | ((with_reducible refine (?_ : Cl _ 31 _ _ _ _)); (refine Cl.is (hit _) ?_); conv => whnf))
  all_goals (refine Is.ent ?_ ?_; (focus (refine FEnt.ent ?_; (repeat (first | exact FEnt.rfl | refine FEnt.drop ?_)); done)); (exact Is.rfl))
theorem Tryz.disLine0 (b : Nat) (L : List HP) : Con Tryz.prog 15 [pcV p0, .map (some b)] (mapH b (.int .i64) [kv 4 1] :: L) (Is (.string ⟨#[106, 117, 109, 112, 32, 101, 10]⟩) (mapH b (.int .i64) [kv 4 1] :: L)) := by
  have hpr := fun a L h => Tryz.asmPrint4 a L h
  have g0 := fun L => Tryz.disGoes0 L
  have hla := fun L => Tryz.lastB L
  have hnm := fun L => Tryz.disName 4 L
  rw [nm4] at hnm
  have hz0 : jump4.size = 7 := rfl
  have hx1 : jump4.extract 0 (Int.toNat (4 + 1)) = ⟨#[106, 117, 109, 112, 32]⟩ := by decide +kernel
  have hz1 : (jump4.extract 0 (Int.toNat (4 + 1))).size = 5 := by rw [hx1]; rfl
  have hz2 : (⟨#[101]⟩ : ByteArray).size = 1 := rfl
  have hz3 : (jump4.extract 0 (Int.toNat (4 + 1)) ++ (⟨#[101]⟩ : ByteArray)).size = 6 := by rw [hx1]; rfl
  have hz4 : (⟨#[10]⟩ : ByteArray).size = 1 := rfl
  have hx2 : jump4.extract 0 (Int.toNat (4 + 1)) ++ (⟨#[101]⟩ : ByteArray) ++ (⟨#[10]⟩ : ByteArray) = ⟨#[106, 117, 109, 112, 32, 101, 10]⟩ := by rw [hx1]; rfl
  refine con_of Tryz.tysOk Tryz.func15 rfl rfl ?_
  conv => whnf
  repeat' (first
    | (first | ((with_reducible refine Br.tt ?_); conv => whnf) | ((with_reducible refine Br.nt ?_); conv => whnf) | ((with_reducible refine Br.dt ?_ ?_); (focus (first | assumption | omega)); conv => whnf))
    | ((with_reducible refine Ar.i64 ?_ ?_); (focus omega); conv => whnf)
    | ((with_reducible refine Nd.mk ?_ ?_); (focus (first | omega | rfl | assumption | (simp; done))); conv => whnf)
    | ((with_reducible refine Nc.go' (fun _ => ?_)); conv => whnf)
    | ((with_reducible refine SubS.pre ?_ ?_); (focus (omega)); conv => whnf)
    | (first | (refine Ld.at 0 rfl rfl ?_; conv => whnf) | (refine Ld.at 1 rfl rfl ?_; conv => whnf))
    | (first | (refine LdN.at 0 rfl (by first | exact Nat.le_of_ble_eq_true rfl | (simp; done)) ?_; conv => whnf) | (refine LdN.at 1 rfl (by first | exact Nat.le_of_ble_eq_true rfl | (simp; done)) ?_; conv => whnf))
    | ((with_reducible refine Dr.by (id := 6) Tryz.tysOk rfl [(0, 0), (1, 0), (2, 0), (3, 0), (4, 0), (5, 0), (6, 1), (7, 1), (8, 0), (9, 0), (10, 0)] ?_ ?_); (focus kernel_rfl); conv => whnf)
    | ((with_reducible refine CD.is (fun M => hnm _) ?_); conv => whnf)
    | (first | ((with_reducible refine (?_ : Cl _ 32 _ _ _ _)); (refine Cl.is (hpr _ _ (Rd.ptc 0 rfl [(11, 0, 4)] rfl)) ?_); conv => whnf) | ((with_reducible refine (?_ : Cl _ 29 _ _ _ _)); (refine Cl.is (g0 _) ?_); conv => whnf) | ((with_reducible refine (?_ : Cl _ 33 _ _ _ _)); (refine Cl.is (hla _) ?_); conv => whnf))
    | ((refine Sm.lkYes Tryz.tysOk 2 rfl rfl rfl rfl rfl (by first | exact rfl | exact trivial) 0 (show ([kv 4 1] : List (Value × Value))[0]? = some (.int .i64 4, .int .i64 1) from rfl) ?_); conv => whnf))
  all_goals (rw [← hx2]; (refine Is.ent ?_ ?_; (focus (refine FEnt.ent ?_; (repeat (first | exact FEnt.rfl | (refine FEnt.at 2 rfl ?_; (try simp only [List.eraseIdx_cons_zero, List.eraseIdx_cons_succ, List.eraseIdx_zero, List.tail_cons])) | refine FEnt.drop ?_)); done)); (exact Is.rfl)))
abbrev liveT : List UInt8 := [106, 117, 109, 112, 32, 101, 10, 101, 58, 10, 98, 121, 116, 101, 32, 55, 10]
theorem Tryz.disListing (L : List HP) : Con Tryz.prog 5 [.string liveS] L (Is (.tuple #[.string ⟨liveT.toArray⟩, i64W 0]) L) := by
  have hcu := fun L => Tryz.disCut liveS L (by decide)
  rw [cut_live] at hcu
  have hta : ∀ a c L, Rd pcE L a [p0, p1] → Ad a ([p0, p1] : List Pc).length → Con Tryz.prog 13 [.slice a ([p0, p1] : List Pc).length c, .int .i64 (liveS.size : Int)] L (Exs (fun b : Nat => .map (some b)) (fun b => mapH b (.int .i64) [kv 4 1] :: L) (fun _ => True)) := fun a c L h h' => Tryz.disTargets a c L h h'
  have l0 := fun b L => Tryz.disLine0 b L
  have l1 := fun b L => Tryz.disLine1 b L
  have hnm := fun L => Tryz.disName 4 L
  rw [nm4] at hnm
  have hz0 : liveS.size = 5 := rfl
  have hz1 : (⟨#[101]⟩ : ByteArray).size = 1 := rfl
  have hz2 : (⟨#[58, 10]⟩ : ByteArray).size = 2 := rfl
  refine con_of Tryz.tysOk Tryz.func5 rfl rfl ?_
  conv => whnf
  repeat' (first
    | ((with_reducible refine Br.df ?_ ?_); (focus (first | assumption | omega)); conv => whnf)
    | ((with_reducible refine Nc.go' (fun _ => ?_)); conv => whnf)
    | (first | ((with_reducible refine (?_ : Cl _ 12 _ _ _ _)); (refine Cl.new (hcu _) (fun _ _ _ _ => ?_)); conv => whnf) | ((with_reducible refine Cl.exs (hta _ _ _ (by ((repeat ((refine Rd.own 0 rfl ?_); (assumption))); done)) (by assumption)) (fun b _ => ?_)); conv => whnf)))
  rename_i a c hc had ht b6
  conv => whnf
  refine Lp.by2 Tryz.tysOk [20] (fun (k : Nat) (xs : List UInt8) => [.int .i64 k]) (fun k xs => Tryz.bldH b6 xs :: mapH b (.int .i64) [kv 4 1] :: own pcE 48 a c [p0, p1] :: L) (fun k xs => (k = 0 ∧ xs = []) ∨ (k = 1 ∧ xs = [106, 117, 109, 112, 32, 101, 10]) ∨ (k = 2 ∧ xs = liveT)) (fun k xs => 2 - k) (0) ([]) (by kernel_rfl) (by (refine FEnt.ent ?_; (repeat (first | exact FEnt.rfl | (apply Tryz.bldShutN))); done)) (.inl ⟨rfl, rfl⟩) ?_
  rintro k xs g
  conv => whnf
  repeat (intro _; conv => whnf)
  rcases g with ⟨rfl, rfl⟩ | ⟨rfl, rfl⟩ | ⟨rfl, rfl⟩
  · conv => whnf
    repeat' (first
      | (first | ((with_reducible refine Br.df ?_ ?_); (focus (first | assumption | omega)); conv => whnf) | ((with_reducible refine Br.yes ?_ ?_); (focus (first | (simp; done) | (simp; omega))); conv => whnf))
      | ((with_reducible refine Ar.i64 ?_ ?_); (focus omega); conv => whnf)
      | ((with_reducible refine Nd.mk ?_ ?_); (focus (first | omega | rfl | assumption | (simp; done))); conv => whnf)
      | ((with_reducible refine Nc.go' (fun _ => ?_)); conv => whnf)
      | ((with_reducible refine Ix.ad ?_ ?_ ?_); (focus (assumption)); (focus ((simp only [List.length_append, List.length_cons, List.length_nil]); omega)); conv => whnf)
      | (refine Ld.at 0 rfl rfl ?_; conv => whnf)
      | (first | ((with_reducible apply LdN.rdk); (focus ((repeat ((refine Rd.own 2 rfl ?_); (assumption))); done)); (focus rfl); (focus rfl); (focus ((simp only [List.length_append, List.length_cons, List.length_nil]); omega)); conv => whnf) | (refine LdN.at 0 rfl (by first | exact Nat.le_of_ble_eq_true rfl | (simp; done)) ?_; conv => whnf))
      | (refine St.at 0 rfl (by first | exact Nat.le_of_ble_eq_true rfl | (simp; done)) rfl ?_; conv => whnf)
      | (first | ((refine Cl.isAt 2 rfl (l0 b _) ?_); conv => whnf) | ((refine Cl.isAt 1 rfl (Tryz.bldWrite b6 _ _ _ (by first | decide | exact Nat.le_of_ble_eq_true rfl)) ?_); conv => whnf))
      | ((refine Sm.lkNo Tryz.tysOk 2 rfl rfl rfl rfl rfl rfl (by first | exact rfl | exact trivial) (by simp [hz0]) ?_); conv => whnf))
    all_goals exact ⟨1, [106, 117, 109, 112, 32, 101, 10], by kernel_rfl, by (refine FEnt.ent ?_; (repeat (first | exact FEnt.rfl | (refine FEnt.at 1 rfl ?_; (try simp only [List.eraseIdx_cons_zero, List.eraseIdx_cons_succ, List.eraseIdx_zero, List.tail_cons])) | refine FEnt.drop ?_)); done), .inr (.inl ⟨rfl, rfl⟩), by omega⟩
  · conv => whnf
    repeat' (first
      | (first | ((with_reducible refine Br.dt ?_ ?_); (focus (first | assumption | omega)); conv => whnf) | ((with_reducible refine Br.yes ?_ ?_); (focus (first | (simp; done) | (simp; omega))); conv => whnf))
      | ((with_reducible refine Ar.i64 ?_ ?_); (focus omega); conv => whnf)
      | ((with_reducible refine Nd.mk ?_ ?_); (focus (first | omega | rfl | assumption | (simp; done))); conv => whnf)
      | ((with_reducible refine Nc.go' (fun _ => ?_)); conv => whnf)
      | ((with_reducible refine Ix.ad ?_ ?_ ?_); (focus (assumption)); (focus ((simp only [List.length_append, List.length_cons, List.length_nil]); omega)); conv => whnf)
      | (refine Ld.at 0 rfl rfl ?_; conv => whnf)
      | (first | ((with_reducible apply LdN.rdk); (focus ((repeat ((refine Rd.own 2 rfl ?_); (assumption))); done)); (focus rfl); (focus rfl); (focus ((simp only [List.length_append, List.length_cons, List.length_nil]); omega)); conv => whnf) | (refine LdN.at 0 rfl (by first | exact Nat.le_of_ble_eq_true rfl | (simp; done)) ?_; conv => whnf))
      | (refine St.at 0 rfl (by first | exact Nat.le_of_ble_eq_true rfl | (simp; done)) rfl ?_; conv => whnf)
      | (first | ((with_reducible refine (?_ : Cl _ 11 _ _ _ _)); (refine Cl.is (hnm _) ?_); conv => whnf) | ((with_reducible refine (?_ : Cl _ 15 _ _ _ _)); (refine Cl.is (l1 b _) ?_); conv => whnf) | ((refine Cl.isAt 1 rfl (Tryz.bldWrite b6 _ _ _ (by first | decide | exact Nat.le_of_ble_eq_true rfl)) ?_); conv => whnf))
      | ((refine Sm.lkYes Tryz.tysOk 2 rfl rfl rfl rfl rfl (by first | exact rfl | exact trivial) 0 (show ([kv 4 1] : List (Value × Value))[0]? = some (.int .i64 4, .int .i64 1) from rfl) ?_); conv => whnf))
    all_goals exact ⟨2, liveT, by kernel_rfl, by (refine FEnt.ent ?_; (repeat (first | exact FEnt.rfl | (refine FEnt.at 1 rfl ?_; (try simp only [List.eraseIdx_cons_zero, List.eraseIdx_cons_succ, List.eraseIdx_zero, List.tail_cons])) | refine FEnt.drop ?_)); done), .inr (.inr ⟨rfl, rfl⟩), by omega⟩
  · conv => whnf
    repeat' (first
      | (first | ((with_reducible refine Br.df ?_ ?_); (focus (first | assumption | omega)); conv => whnf) | ((with_reducible refine Br.no ?_ ?_); (focus (first | (simp; done) | (simp; omega))); conv => whnf))
      | ((with_reducible refine Cl.is (Tryz.bldString b6 _ _) ?_); conv => whnf)
      | ((refine Sm.lkNo Tryz.tysOk 1 rfl rfl rfl rfl rfl rfl (by first | exact rfl | exact trivial) (by simp [hz0]) ?_); conv => whnf))
    all_goals (refine Is.ent ?_ ?_; (focus (refine FEnt.ent ?_; (repeat (first | exact FEnt.rfl | refine FEnt.drop ?_)); done)); (exact Is.rfl))
end Go.Proofs
