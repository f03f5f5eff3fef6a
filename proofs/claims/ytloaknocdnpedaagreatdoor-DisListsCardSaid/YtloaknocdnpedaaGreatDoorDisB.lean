/- Pieces of a program: contracts. -/
import Derived.Test.YtloaknocdnpedaaGreatDoorDisA
set_option linter.all false
namespace Go.Proofs
open Go.Eng
open Classical
set_option linter.unusedVariables false
set_option maxRecDepth 100000
set_option maxHeartbeats 2000000
/-! a reader at its end -/
theorem Tryz.rdFail (b : Nat) (s : ByteArray) (k : Nat) (L : List HP) : Con Tryz.prog 82 [.pointer (some ⟨b, 0, none⟩), i64W 5] (ptc b 106 (rdC 0 s k) :: L) (Is (.tuple #[]) (ptc b 106 (rdC 5 s k) :: L)) := by
  refine con_of Tryz.tysOk Tryz.func82 rfl rfl ?_
  conv => whnf
  repeat' (first
    | ((with_reducible refine Br.dt ?_ ?_); (focus (first | assumption | omega)); conv => whnf)
    | ((with_reducible refine Nd.mk ?_ ?_); (focus (first | omega | rfl | assumption | (simp; done))); conv => whnf)
    | (refine Ld.at 0 rfl rfl ?_; conv => whnf)
    | (refine St.at 0 rfl (by first | exact Nat.le_of_ble_eq_true rfl | (simp; done)) rfl ?_; conv => whnf))
  all_goals (refine Is.ent ?_ ?_; (focus (exact Ent.rfl)); (exact Is.rfl))
theorem Tryz.rdTakeEnd (b : Nat) (s : ByteArray) (k n : Nat) (L : List HP) (hk : k ≤ s.size) (hn : s.size < k + n) (hs : s.size ≤ 1000000000) (hn2 : n ≤ 1000) :
    Con Tryz.prog 65 [.pointer (some ⟨b, 0, none⟩), i64W n] (ptc b 106 (rdC 0 s k) :: L) (Is (.string ⟨#[]⟩) (ptc b 106 (rdC 5 s k) :: L)) := by
  refine con_of Tryz.tysOk Tryz.func65 rfl rfl ?_
  conv => whnf
  repeat' (first
    | (first | ((with_reducible refine Br.ff ?_); conv => whnf) | ((with_reducible refine Br.sn ?_); conv => whnf) | ((with_reducible refine Br.dt ?_ ?_); (focus (first | assumption | omega)); conv => whnf) | ((with_reducible refine Br.df ?_ ?_); (focus (first | assumption | omega)); conv => whnf) | ((with_reducible refine Br.ndf ?_ ?_); (focus (first | assumption | omega)); conv => whnf))
    | ((with_reducible refine Ar.i64 ?_ ?_); (focus omega); conv => whnf)
    | (refine Ld.at 0 rfl rfl ?_; conv => whnf)
    | ((with_reducible refine Dr.by (id := 6) Tryz.tysOk rfl [(0, 0), (1, 0), (2, 0), (3, 0), (6, 0), (7, 0), (8, 0), (4, 1), (5, 0), (9, 1), (10, 0), (11, 0), (12, 0)] ?_ ?_); (focus kernel_rfl); conv => whnf)
    | ((refine Cl.isAt 0 rfl (Tryz.rdFail _ _ _ _) ?_); conv => whnf))
  all_goals (refine Is.ent ?_ ?_; (focus (exact Ent.rfl)); (exact Is.rfl))
theorem Tryz.rdTakeErr (b : Nat) (s : ByteArray) (k n : Nat) (L : List HP) :
    Con Tryz.prog 65 [.pointer (some ⟨b, 0, none⟩), i64W n] (ptc b 106 (rdC 5 s k) :: L) (Is (.string ⟨#[]⟩) (ptc b 106 (rdC 5 s k) :: L)) := by
  refine con_of Tryz.tysOk Tryz.func65 rfl rfl ?_
  conv => whnf
  repeat' (first
    | (first | ((with_reducible refine Br.ff ?_); conv => whnf) | ((with_reducible refine Br.sn ?_); conv => whnf) | ((with_reducible refine Br.ndt ?_ ?_); (focus (first | assumption | omega)); conv => whnf))
    | (refine Ld.at 0 rfl rfl ?_; conv => whnf))
  all_goals (refine Is.ent ?_ ?_; (focus (exact Ent.rfl)); (exact Is.rfl))
theorem Tryz.rdByteEnd (b : Nat) (s : ByteArray) (k : Nat) (L : List HP) (hk : k = s.size) (hs : s.size ≤ 1000000000) :
    Con Tryz.prog 47 [.pointer (some ⟨b, 0, none⟩)] (ptc b 106 (rdC 0 s k) :: L) (Is (i64W 0) (ptc b 106 (rdC 5 s k) :: L)) := by
  have h := fun L => Tryz.rdTakeEnd b s k 1 L (by omega) (by omega) hs (by omega)
  refine con_of Tryz.tysOk Tryz.func47 rfl rfl ?_
  conv => whnf
  repeat' (first
    | ((with_reducible refine Br.yes ?_ ?_); (focus (first | (simp; done) | (simp; omega))); conv => whnf)
    | ((refine Cl.isAt 0 rfl (h _) ?_); conv => whnf))
  all_goals (refine Is.ent ?_ ?_; (focus (exact Ent.rfl)); (exact Is.rfl))
theorem Tryz.rdByteErr (b : Nat) (s : ByteArray) (k : Nat) (L : List HP) :
    Con Tryz.prog 47 [.pointer (some ⟨b, 0, none⟩)] (ptc b 106 (rdC 5 s k) :: L) (Is (i64W 0) (ptc b 106 (rdC 5 s k) :: L)) := by
  have h := fun L => Tryz.rdTakeErr b s k 1 L
  refine con_of Tryz.tysOk Tryz.func47 rfl rfl ?_
  conv => whnf
  repeat' (first
    | ((with_reducible refine Br.yes ?_ ?_); (focus (first | (simp; done) | (simp; omega))); conv => whnf)
    | ((refine Cl.isAt 0 rfl (h _) ?_); conv => whnf))
  all_goals (refine Is.ent ?_ ?_; (focus (exact Ent.rfl)); (exact Is.rfl))
theorem Tryz.rdTwoEnd (b : Nat) (s : ByteArray) (k : Nat) (L : List HP) (hk : k ≤ s.size) (hn : s.size < k + 2) (hs : s.size ≤ 1000000000) :
    Con Tryz.prog 48 [.pointer (some ⟨b, 0, none⟩)] (ptc b 106 (rdC 0 s k) :: L) (Is (i64W 0) (ptc b 106 (rdC 5 s k) :: L)) := by
  have h := fun L => Tryz.rdTakeEnd b s k 2 L (by omega) (by omega) hs (by omega)
  refine con_of Tryz.tysOk Tryz.func48 rfl rfl ?_
  conv => whnf
  repeat' (first
    | ((with_reducible refine Br.yes ?_ ?_); (focus (first | (simp; done) | (simp; omega))); conv => whnf)
    | ((refine Cl.isAt 0 rfl (h _) ?_); conv => whnf))
  all_goals (refine Is.ent ?_ ?_; (focus (exact Ent.rfl)); (exact Is.rfl))
theorem Tryz.rdTwoErr (b : Nat) (s : ByteArray) (k : Nat) (L : List HP) :
    Con Tryz.prog 48 [.pointer (some ⟨b, 0, none⟩)] (ptc b 106 (rdC 5 s k) :: L) (Is (i64W 0) (ptc b 106 (rdC 5 s k) :: L)) := by
  have h := fun L => Tryz.rdTakeErr b s k 2 L
  refine con_of Tryz.tysOk Tryz.func48 rfl rfl ?_
  conv => whnf
  repeat' (first
    | ((with_reducible refine Br.yes ?_ ?_); (focus (first | (simp; done) | (simp; omega))); conv => whnf)
    | ((refine Cl.isAt 0 rfl (h _) ?_); conv => whnf))
  all_goals (refine Is.ent ?_ ?_; (focus (exact Ent.rfl)); (exact Is.rfl))
theorem Tryz.codeGetEnd (s : ByteArray) (L : List HP) (hs : s.size < 4) : Con Tryz.prog 27 [.string s] L (Is (.tuple #[insV 0 0 0, i64W 5]) L) := by
  rcases Nat.lt_or_ge s.size 1 with h | h
  · refine con_of Tryz.tysOk Tryz.func27 rfl rfl ?_
    conv => whnf
    repeat' (first
      | ((with_reducible refine Br.ndt ?_ ?_); (focus (first | assumption | omega)); conv => whnf)
      | ((with_reducible refine Ar.u8b ?_); conv => whnf)
      | ((with_reducible refine Nd.mk ?_ ?_); (focus (first | omega | rfl | assumption | (simp; done))); conv => whnf)
      | ((with_reducible refine Nc.go' (fun _ => ?_)); conv => whnf)
      | (refine LdN.at 2 rfl (by first | exact Nat.le_of_ble_eq_true rfl | (simp; done)) ?_; conv => whnf)
      | (first | (refine St.at 0 rfl (by first | exact Nat.le_of_ble_eq_true rfl | (simp; done)) rfl ?_; conv => whnf) | (refine St.at 2 rfl (by first | exact Nat.le_of_ble_eq_true rfl | (simp; done)) rfl ?_; conv => whnf))
      | (first | ((with_reducible refine Cl.exs (Tryz.rdNew _ _) (fun b1 _ => ?_)); conv => whnf) | ((refine Cl.isAt 0 rfl (Tryz.rdByteEnd _ s 0 _ (by omega) (by omega)) ?_); conv => whnf) | ((refine Cl.isAt 0 rfl (Tryz.rdByteErr _ s 0 _) ?_); conv => whnf) | ((refine Cl.isAt 0 rfl (Tryz.rdTwoErr _ s 0 _) ?_); conv => whnf) | ((refine Cl.isAt 1 rfl (Tryz.rdErr _ _ _ _ _) ?_); conv => whnf)))
    all_goals (refine Is.ent ?_ ?_; (focus (refine FEnt.ent ?_; (repeat (first | exact FEnt.rfl | refine FEnt.drop ?_)); done)); (exact Is.rfl))
  rcases Nat.lt_or_ge s.size 2 with h1 | h1
  · have hb := u8_lt (sAt s 0)
    refine con_of Tryz.tysOk Tryz.func27 rfl rfl ?_
    conv => whnf
    repeat' (first
      | ((with_reducible refine Br.ndt ?_ ?_); (focus (first | assumption | omega)); conv => whnf)
      | ((with_reducible refine Ar.u8b ?_); conv => whnf)
      | ((with_reducible refine Nd.mk ?_ ?_); (focus (first | omega | rfl | assumption | (simp; done))); conv => whnf)
      | ((with_reducible refine Nc.go' (fun _ => ?_)); conv => whnf)
      | (refine LdN.at 2 rfl (by first | exact Nat.le_of_ble_eq_true rfl | (simp; done)) ?_; conv => whnf)
      | (first | (refine St.at 0 rfl (by first | exact Nat.le_of_ble_eq_true rfl | (simp; done)) rfl ?_; conv => whnf) | (refine St.at 2 rfl (by first | exact Nat.le_of_ble_eq_true rfl | (simp; done)) rfl ?_; conv => whnf))
      | (first | ((with_reducible refine Cl.exs (Tryz.rdNew _ _) (fun b1 _ => ?_)); conv => whnf) | ((refine Cl.isAt 0 rfl (Tryz.rdByte _ s 0 _ (by omega) (by omega)) ?_); conv => whnf) | ((refine Cl.isAt 0 rfl (Tryz.rdByteEnd _ s 1 _ (by omega) (by omega)) ?_); conv => whnf) | ((refine Cl.isAt 0 rfl (Tryz.rdTwoErr _ s 1 _) ?_); conv => whnf) | ((refine Cl.isAt 1 rfl (Tryz.rdErr _ _ _ _ _) ?_); conv => whnf))
      | ((rw [u8of_toNat]); conv => whnf))
    all_goals (refine Is.ent ?_ ?_; (focus (refine FEnt.ent ?_; (repeat (first | exact FEnt.rfl | refine FEnt.drop ?_)); done)); (exact Is.rfl))
  · have hb := u8_lt (sAt s 0)
    refine con_of Tryz.tysOk Tryz.func27 rfl rfl ?_
    conv => whnf
    repeat' (first
      | ((with_reducible refine Br.ndt ?_ ?_); (focus (first | assumption | omega)); conv => whnf)
      | ((with_reducible refine Ar.u8b ?_); conv => whnf)
      | ((with_reducible refine Nd.mk ?_ ?_); (focus (first | omega | rfl | assumption | (simp; done))); conv => whnf)
      | ((with_reducible refine Nc.go' (fun _ => ?_)); conv => whnf)
      | (refine LdN.at 2 rfl (by first | exact Nat.le_of_ble_eq_true rfl | (simp; done)) ?_; conv => whnf)
      | (first | (refine St.at 0 rfl (by first | exact Nat.le_of_ble_eq_true rfl | (simp; done)) rfl ?_; conv => whnf) | (refine St.at 2 rfl (by first | exact Nat.le_of_ble_eq_true rfl | (simp; done)) rfl ?_; conv => whnf))
      | (first | ((with_reducible refine Cl.exs (Tryz.rdNew _ _) (fun b1 _ => ?_)); conv => whnf) | ((refine Cl.isAt 0 rfl (Tryz.rdByte _ s 0 _ (by omega) (by omega)) ?_); conv => whnf) | ((refine Cl.isAt 0 rfl (Tryz.rdByte _ s 1 _ (by omega) (by omega)) ?_); conv => whnf) | ((refine Cl.isAt 0 rfl (Tryz.rdTwoEnd _ s 2 _ (by omega) (by omega) (by omega)) ?_); conv => whnf) | ((refine Cl.isAt 1 rfl (Tryz.rdErr _ _ _ _ _) ?_); conv => whnf))
      | ((rw [u8of_toNat]); conv => whnf))
    all_goals (refine Is.ent ?_ ?_; (focus (refine FEnt.ent ?_; (repeat (first | exact FEnt.rfl | refine FEnt.drop ?_)); done)); (exact Is.rfl))
theorem Tryz.refGetEnd (s : ByteArray) (L : List HP) (hs : s.size < 4) : Con Tryz.prog 22 [.string s] L (Is (.tuple #[insV 0 0 0, i64W 5]) L) := by
  refine con_of Tryz.tysOk Tryz.func22 rfl rfl ?_
  conv => whnf
  repeat' (first
    | ((with_reducible refine Br.dt ?_ ?_); (focus (first | assumption | omega)); conv => whnf)
    | ((with_reducible refine Nd.mk ?_ ?_); (focus (first | omega | rfl | assumption | (simp; done))); conv => whnf)
    | ((with_reducible refine Nc.go' (fun _ => ?_)); conv => whnf)
    | (refine LdN.at 0 rfl (by first | exact Nat.le_of_ble_eq_true rfl | (simp; done)) ?_; conv => whnf)
    | (refine St.at 0 rfl (by first | exact Nat.le_of_ble_eq_true rfl | (simp; done)) rfl ?_; conv => whnf))
  all_goals (refine Is.ent ?_ ?_; (focus (refine FEnt.ent ?_; (repeat (first | exact FEnt.rfl | refine FEnt.drop ?_)); done)); (exact Is.rfl))
/-! pieces -/
structure Pc where
  a : Int
  i : Bool
  c : Int
  x : Int
  n : Int
  b : Int
def pcE : Enc Pc := ⟨6, fun p => [i64W p.a, .bool p.i, u8W p.c, i64W p.x, i64W p.n, i64W p.b], ⟨0, false, 0, 0, 0, 0⟩, fun _ => rfl, by omega, fun _ => rfl⟩
abbrev pcV (p : Pc) : Value := .agg #[i64W p.a, .bool p.i, u8W p.c, i64W p.x, i64W p.n, i64W p.b]
abbrev insAt (s : ByteArray) (k : Nat) : Prop := k + 4 ≤ s.size ∧ insOk (s.extract k s.size)
def pcI (s : ByteArray) (k : Nat) : Pc := ⟨k, true, insC (s.extract k s.size), insX (s.extract k s.size), insN (s.extract k s.size), 0⟩
def pcB (s : ByteArray) (k : Nat) : Pc := ⟨k, false, 0, 0, 0, (sAt s k).toNat⟩
noncomputable def cutF (s : ByteArray) (k : Nat) : List Pc := if h : k < s.size then (if insAt s k then pcI s k :: cutF s (k + 4) else pcB s k :: cutF s (k + 1)) else []
termination_by s.size - k
theorem cut_i {s : ByteArray} {k : Nat} (h : insAt s k) : cutF s k = pcI s k :: cutF s (k + 4) := by
  rw [cutF, dif_pos (by omega), if_pos h]
theorem cut_b {s : ByteArray} {k : Nat} (hk : k < s.size) (h : ¬ insAt s k) : cutF s k = pcB s k :: cutF s (k + 1) := by
  rw [cutF, dif_pos hk, if_neg h]
theorem cut_e {s : ByteArray} {k : Nat} (hk : s.size ≤ k) : cutF s k = [] := by
  rw [cutF, dif_neg (by omega)]
theorem Tryz.disSize (p : Pc) (L : List HP) : Con Tryz.prog 28 [pcV p] L (Is (i64W (if p.i then 4 else 1)) L) := by
  obtain ⟨a, i, c, x, n, b⟩ := p
  cases i
  · refine con_of Tryz.tysOk Tryz.func28 rfl rfl ?_
    conv => whnf
    repeat' (first
      | ((with_reducible refine Br.ff ?_); conv => whnf)
      | ((with_reducible refine Nc.go' (fun _ => ?_)); conv => whnf)
      | (refine Ld.at 0 rfl rfl ?_; conv => whnf))
    all_goals (refine Is.ent ?_ ?_; (focus (refine FEnt.ent ?_; (repeat (first | exact FEnt.rfl | refine FEnt.drop ?_)); done)); (exact Is.rfl))
  · refine con_of Tryz.tysOk Tryz.func28 rfl rfl ?_
    conv => whnf
    repeat' (first
      | ((with_reducible refine Br.tt ?_); conv => whnf)
      | ((with_reducible refine Nc.go' (fun _ => ?_)); conv => whnf)
      | (refine Ld.at 0 rfl rfl ?_; conv => whnf))
    all_goals (refine Is.ent ?_ ?_; (focus (refine FEnt.ent ?_; (repeat (first | exact FEnt.rfl | refine FEnt.drop ?_)); done)); (exact Is.rfl))
theorem Tryz.refCut (s : ByteArray) (L : List HP) (hs : s.size ≤ 100000) : Con Tryz.prog 8 [.string s] L (New pcE 67 (cutF s 0) L) := by
  refine con_of Tryz.tysOk Tryz.func8 rfl rfl ?_
  conv => whnf
  repeat' ((with_reducible refine Nc.go' (fun _ => ?_)); conv => whnf)
  rename_i b7
  conv => whnf
  refine Lp.by2 Tryz.tysOk [4, 3] (fun (k : Nat) (P : Option Addr × Nat × List Pc) => [.int .i64 k, .slice P.1 P.2.2.length P.2.1]) (fun k P => own pcE 67 P.1 P.2.1 P.2.2 :: L) (fun k P => k ≤ s.size ∧ P.2.2.length ≤ k ∧ P.2.2 ++ cutF s k = cutF s 0 ∧ P.2.2.length ≤ P.2.1 ∧ Ad P.1 P.2.2.length) (fun k P => s.size - k) (0) (((some ⟨b7, 0, none⟩, 0, []) : Option Addr × Nat × List Pc)) (by kernel_rfl) (by (refine FEnt.ent ?_; (repeat (first | exact FEnt.rfl | (refine FEnt.own0 0 rfl ?_; (try simp only [List.eraseIdx_cons_zero, List.eraseIdx_cons_succ, List.eraseIdx_zero, List.tail_cons])))); done)) (⟨by omega, by simp, rfl, by simp, fun _ => rfl⟩) ?_
  rintro k ⟨a, c, ys⟩ ⟨g1, g2, g3, g4, g5⟩
  conv => whnf
  repeat (intro _; conv => whnf)
  dsimp only at g2 g3 g4 g5
  by_cases hk : k < s.size
  · have hz := extract_size s k s.size (by omega) (Nat.le_refl _)
    have hcb := u8_lt (sAt s k)
    by_cases hi : insAt s k
    · have hg := fun L => Tryz.refGet (s.extract k s.size) L (by omega) (by omega) hi.2
      rw [cut_i hi] at g3
      have e : (ys ++ [pcI s k]) ++ cutF s (k + 4) = cutF s 0 := by rw [← g3, List.append_assoc]; rfl
      have hk4 := hi.1
      clear g3 hi hz
      conv => whnf
      repeat' (first
        | ((with_reducible refine Br.dt ?_ ?_); (focus (first | assumption | omega)); conv => whnf)
        | ((with_reducible refine Ar.i64 ?_ ?_); (focus omega); conv => whnf)
        | ((with_reducible refine Nd.mk ?_ ?_); (focus (first | omega | rfl | assumption | (simp; done))); conv => whnf)
        | ((with_reducible refine Nc.go' (fun _ => ?_)); conv => whnf)
        | ((with_reducible refine SubS.suf ?_ ?_); (focus (omega)); conv => whnf)
        | (refine LdN.at 0 rfl (by first | exact Nat.le_of_ble_eq_true rfl | (simp; done)) ?_; conv => whnf)
        | (refine St.at 0 rfl (by first | exact Nat.le_of_ble_eq_true rfl | (simp; done)) rfl ?_; conv => whnf)
        | ((with_reducible refine (?_ : Cl _ 22 _ _ _ _)); (refine Cl.is (hg _) ?_); conv => whnf)
        | ((with_reducible refine (?_ : Sm _ (Builtin.append_ _ _ _) _ _)); (((with_reducible apply (Sm.appAt (E := pcE) (et := 67) Tryz.tysOk 2)); (focus rfl)); (rotate_left; (focus (exact Rd.ptc 0 rfl [⟨_, _, _, _, _, _⟩] rfl)); rotate_right; (focus rfl)); (focus rfl); (focus rfl); (focus rfl); (focus rfl); (focus rfl); (focus rfl); (focus ((simp only [List.length_append, List.length_cons, List.length_nil]); omega)); (intro _ _ _ _); conv => whnf)))
      rename_i a5 c5 hc5 had5
      exact ⟨k + 4, (a5, c5, ys ++ [pcI s k]), by kernel_rfl, by (try dsimp only); (refine FEnt.ent ?_; (repeat (first | exact FEnt.rfl | (refine FEnt.at 0 rfl ?_; (try simp only [List.eraseIdx_cons_zero, List.eraseIdx_cons_succ, List.eraseIdx_zero, List.tail_cons])) | refine FEnt.drop ?_)); done), ⟨by omega, by rw [List.length_append]; simp only [List.length_cons, List.length_nil]; omega, e, hc5, had5⟩, by omega⟩
    · have hg : ∃ e : Int, e ≠ 0 ∧ ∀ L, Con Tryz.prog 22 [.string (s.extract k s.size)] L (Is (.tuple #[insV 0 0 0, i64W e]) L) := by
        by_cases h4 : k + 4 ≤ s.size
        · exact ⟨12, by omega, fun L => Tryz.refGetNo (s.extract k s.size) L (by omega) (by omega) (fun h => hi ⟨h4, h⟩)⟩
        · exact ⟨5, by omega, fun L => Tryz.refGetEnd (s.extract k s.size) L (by omega)⟩
      obtain ⟨er, her, hg⟩ := hg
      rw [cut_b hk hi] at g3
      have e : (ys ++ [pcB s k]) ++ cutF s (k + 1) = cutF s 0 := by rw [← g3, List.append_assoc]; rfl
      clear g3 hi hz
      conv => whnf
      repeat' (first
        | (first | ((with_reducible refine Br.dt ?_ ?_); (focus (first | assumption | omega)); conv => whnf) | ((with_reducible refine Br.df ?_ ?_); (focus (first | assumption | omega)); conv => whnf))
        | (first | ((with_reducible refine Ar.i64b ?_); conv => whnf) | ((with_reducible refine Ar.i64 ?_ ?_); (focus omega); conv => whnf))
        | ((with_reducible refine Nd.mk ?_ ?_); (focus (first | omega | rfl | assumption | (simp; done))); conv => whnf)
        | ((with_reducible refine Nc.go' (fun _ => ?_)); conv => whnf)
        | ((with_reducible refine SIx.nat ?_ ?_); (focus (omega)); conv => whnf)
        | ((with_reducible refine SubS.suf ?_ ?_); (focus (omega)); conv => whnf)
        | (refine St.at 0 rfl (by first | exact Nat.le_of_ble_eq_true rfl | (simp; done)) rfl ?_; conv => whnf)
        | ((with_reducible refine (?_ : Cl _ 22 _ _ _ _)); (refine Cl.is (hg _) ?_); conv => whnf)
        | ((with_reducible refine (?_ : Sm _ (Builtin.append_ _ _ _) _ _)); (((with_reducible apply (Sm.appAt (E := pcE) (et := 67) Tryz.tysOk 2)); (focus rfl)); (rotate_left; (focus (exact Rd.ptc 0 rfl [⟨_, _, _, _, _, _⟩] rfl)); rotate_right; (focus rfl)); (focus rfl); (focus rfl); (focus rfl); (focus rfl); (focus rfl); (focus rfl); (focus ((simp only [List.length_append, List.length_cons, List.length_nil]); omega)); (intro _ _ _ _); conv => whnf)))
      all_goals try (exfalso; omega)
      rename_i a5 c5 hc5 had5
      exact ⟨k + 1, (a5, c5, ys ++ [pcB s k]), by kernel_rfl, by (try dsimp only); (refine FEnt.ent ?_; (repeat (first | exact FEnt.rfl | (refine FEnt.at 0 rfl ?_; (try simp only [List.eraseIdx_cons_zero, List.eraseIdx_cons_succ, List.eraseIdx_zero, List.tail_cons])) | refine FEnt.drop ?_)); done), ⟨by omega, by rw [List.length_append]; simp only [List.length_cons, List.length_nil]; omega, e, hc5, had5⟩, by omega⟩
  · rw [cut_e (by omega), List.append_nil] at g3
    subst g3
    conv => whnf
    repeat' ((with_reducible refine Br.df ?_ ?_); (focus (first | assumption | omega)); conv => whnf)
    all_goals exact New.of rfl g4 g5 (by (exact Ent.rfl))
theorem Tryz.disCut (s : ByteArray) (L : List HP) (hs : s.size ≤ 100000) : Con Tryz.prog 12 [.string s] L (New pcE 48 (cutF s 0) L) := by
  refine con_of Tryz.tysOk Tryz.func12 rfl rfl ?_
  conv => whnf
  refine Sc.by5 Tryz.tysOk 0 rfl [4, 3] (fun (k : Nat) (P : Option Addr × Nat × List Pc) (_ _ _ : Unit) => [.int .i64 k, .slice P.1 P.2.2.length P.2.1]) (fun k P _ _ _ => own pcE 48 P.1 P.2.1 P.2.2 :: L) (fun k P _ _ _ => k ≤ s.size ∧ P.2.2.length ≤ k ∧ P.2.2 ++ cutF s k = cutF s 0 ∧ P.2.2.length ≤ P.2.1 ∧ Ad P.1 P.2.2.length) (fun k P _ _ _ => s.size - k) ?_ ?_
  · skip
    by_cases hk : 0 < s.size
    · have hz := extract_size s 0 s.size (by omega) (Nat.le_refl _)
      have hcb := u8_lt (sAt s 0)
      by_cases hi : insAt s 0
      · have hg := fun L => Tryz.codeGet (s.extract 0 s.size) L (by have := hi.1; omega) (by omega) hi.2
        have e : (([] : List Pc) ++ [pcI s 0]) ++ cutF s (0 + 4) = cutF s 0 := by rw [cut_i (k := 0) hi]; rfl
        have hsz := fun L => Tryz.disSize (pcI s 0) L
        rw [show (pcI s 0).i = true from rfl, if_pos rfl] at hsz
        have hk4 := hi.1
        clear hi hz
        conv => whnf
        repeat' (first
          | (first | ((with_reducible refine Br.dt ?_ ?_); (focus (first | assumption | omega)); conv => whnf) | ((with_reducible refine Br.df ?_ ?_); (focus (first | assumption | omega)); conv => whnf))
          | ((with_reducible refine Ar.i64 ?_ ?_); (focus omega); conv => whnf)
          | ((with_reducible refine Nd.mk ?_ ?_); (focus (first | omega | rfl | assumption | (simp; done))); conv => whnf)
          | ((with_reducible refine Nc.go' (fun _ => ?_)); conv => whnf)
          | ((with_reducible refine SubS.suf ?_ ?_); (focus (omega)); conv => whnf)
          | ((with_reducible refine Fk.mk ?_ ?_) <;> (conv => whnf))
          | (with_reducible exact True.intro)
          | (first | (refine LdN.at 0 rfl (by first | exact Nat.le_of_ble_eq_true rfl | (simp; done)) ?_; conv => whnf) | (refine LdN.at 1 rfl (by first | exact Nat.le_of_ble_eq_true rfl | (simp; done)) ?_; conv => whnf) | (refine LdN.at 3 rfl (by first | exact Nat.le_of_ble_eq_true rfl | (simp; done)) ?_; conv => whnf))
          | (first | (refine St.at 0 rfl (by first | exact Nat.le_of_ble_eq_true rfl | (simp; done)) rfl ?_; conv => whnf) | (refine St.at 1 rfl (by first | exact Nat.le_of_ble_eq_true rfl | (simp; done)) rfl ?_; conv => whnf))
          | ((with_reducible refine Dr.tree (id := 8) Tryz.tysOk rfl (.one 1 0 (.fork 0 1 (.one 2 3 (.one 3 0 (.one 4 3 .nil))) (.fork 2 3 (.one 0 1 (.one 3 0 (.one 4 3 .nil))) .nil))) ?_ _ ?_ (fun _ _ h => h)); (focus kernel_rfl); conv => whnf)
          | (first | ((with_reducible refine (?_ : Cl _ 27 _ _ _ _)); (refine Cl.is (hg _) ?_); conv => whnf) | ((with_reducible refine (?_ : Cl _ 28 _ _ _ _)); (refine Cl.is (hsz _) ?_); conv => whnf))
          | ((with_reducible refine (?_ : Sm _ (Builtin.append_ _ _ _) _ _)); ((with_reducible_and_instances apply (Sm.appNil (E := pcE) (et := 48) Tryz.tysOk)); (rotate_left; (focus (exact Rd.ptc 0 rfl [⟨_, _, _, _, _, _⟩] rfl)); rotate_right; (focus rfl)); (focus rfl); (focus rfl); (focus rfl); (focus rfl); (focus rfl); (focus ((simp only [List.length_append, List.length_cons, List.length_nil]); omega)); (intro _ _ _ _); conv => whnf)))
        all_goals (rename_i a5 c5 hc5 had5; exact Jump5.mk ⟨0 + 4, (a5, c5, ([] : List Pc) ++ [pcI s 0]), (), (), (), by kernel_rfl, by (try dsimp only); (refine FEnt.ent ?_; (repeat (first | exact FEnt.rfl | (refine FEnt.at 0 rfl ?_; (try simp only [List.eraseIdx_cons_zero, List.eraseIdx_cons_succ, List.eraseIdx_zero, List.tail_cons])) | refine FEnt.drop ?_)); done), ⟨by omega, by rw [List.length_append]; simp only [List.length_cons, List.length_nil]; omega, e, hc5, had5⟩⟩)
      · have hg : ∃ e : Int, e ≠ 0 ∧ ∀ L, Con Tryz.prog 27 [.string (s.extract 0 s.size)] L (Is (.tuple #[insV 0 0 0, i64W e]) L) := by
          by_cases h4 : 0 + 4 ≤ s.size
          · exact ⟨12, by omega, fun L => Tryz.codeGetNo (s.extract 0 s.size) L (by omega) (by omega) (fun h => hi ⟨h4, h⟩)⟩
          · exact ⟨5, by omega, fun L => Tryz.codeGetEnd (s.extract 0 s.size) L (by omega)⟩
        obtain ⟨er, her, hg⟩ := hg
        have e : (([] : List Pc) ++ [pcB s 0]) ++ cutF s (0 + 1) = cutF s 0 := by rw [cut_b (k := 0) hk hi]; rfl
        have hsz := fun L => Tryz.disSize (pcB s 0) L
        rw [show (pcB s 0).i = false from rfl, if_neg (by decide)] at hsz
        clear hi hz
        conv => whnf
        repeat' (first
          | ((with_reducible refine Br.df ?_ ?_); (focus (first | assumption | omega)); conv => whnf)
          | (first | ((with_reducible refine Ar.i64b ?_); conv => whnf) | ((with_reducible refine Ar.i64 ?_ ?_); (focus omega); conv => whnf))
          | ((with_reducible refine Nd.mk ?_ ?_); (focus (first | omega | rfl | assumption | (simp; done))); conv => whnf)
          | ((with_reducible refine Nc.go' (fun _ => ?_)); conv => whnf)
          | ((with_reducible refine SIx.mk' ?_ ?_); (focus (omega)); conv => whnf)
          | ((with_reducible refine SubS.suf ?_ ?_); (focus (omega)); conv => whnf)
          | (first | (refine LdN.at 1 rfl (by first | exact Nat.le_of_ble_eq_true rfl | (simp; done)) ?_; conv => whnf) | (refine LdN.at 3 rfl (by first | exact Nat.le_of_ble_eq_true rfl | (simp; done)) ?_; conv => whnf))
          | (first | (refine St.at 0 rfl (by first | exact Nat.le_of_ble_eq_true rfl | (simp; done)) rfl ?_; conv => whnf) | (refine St.at 1 rfl (by first | exact Nat.le_of_ble_eq_true rfl | (simp; done)) rfl ?_; conv => whnf))
          | (first | ((with_reducible refine (?_ : Cl _ 27 _ _ _ _)); (refine Cl.is (hg _) ?_); conv => whnf) | ((with_reducible refine (?_ : Cl _ 28 _ _ _ _)); (refine Cl.is (hsz _) ?_); conv => whnf))
          | ((with_reducible refine (?_ : Sm _ (Builtin.append_ _ _ _) _ _)); ((with_reducible_and_instances apply (Sm.appNil (E := pcE) (et := 48) Tryz.tysOk)); (rotate_left; (focus (exact Rd.ptc 0 rfl [⟨_, _, _, _, _, _⟩] rfl)); rotate_right; (focus rfl)); (focus rfl); (focus rfl); (focus rfl); (focus rfl); (focus rfl); (focus ((simp only [List.length_append, List.length_cons, List.length_nil]); omega)); (intro _ _ _ _); conv => whnf)))
        all_goals try (exfalso; omega)
        all_goals (rename_i a5 c5 hc5 had5; exact Jump5.mk ⟨0 + 1, (a5, c5, ([] : List Pc) ++ [pcB s 0]), (), (), (), by kernel_rfl, by (try dsimp only); (refine FEnt.ent ?_; (repeat (first | exact FEnt.rfl | (refine FEnt.at 0 rfl ?_; (try simp only [List.eraseIdx_cons_zero, List.eraseIdx_cons_succ, List.eraseIdx_zero, List.tail_cons])) | refine FEnt.drop ?_)); done), ⟨by omega, by rw [List.length_append]; simp only [List.length_cons, List.length_nil]; omega, e, hc5, had5⟩⟩)
    · rw [cut_e (s := s) (k := 0) (by omega)]
      conv => whnf
      repeat' ((with_reducible refine Br.dt ?_ ?_); (focus (first | assumption | omega)); conv => whnf)
      all_goals exact New.nil (by (exact Ent.rfl))
  · rintro k ⟨a, c, ys⟩ _ _ _ ⟨g1, g2, g3, g4, g5⟩
    dsimp only at g2 g3 g4 g5
    conv => whnf
    repeat (intro _; conv => whnf)
    by_cases hk : k < s.size
    · have hz := extract_size s k s.size (by omega) (Nat.le_refl _)
      have hcb := u8_lt (sAt s k)
      by_cases hi : insAt s k
      · have hg := fun L => Tryz.codeGet (s.extract k s.size) L (by have := hi.1; omega) (by omega) hi.2
        rw [cut_i hi] at g3
        have e : (ys ++ [pcI s k]) ++ cutF s (k + 4) = cutF s 0 := by rw [← g3, List.append_assoc]; rfl
        have hsz := fun L => Tryz.disSize (pcI s k) L
        rw [show (pcI s k).i = true from rfl, if_pos rfl] at hsz
        have hk4 := hi.1
        clear hi hz g3
        conv => whnf
        repeat' (first
          | (first | ((with_reducible refine Br.dt ?_ ?_); (focus (first | assumption | omega)); conv => whnf) | ((with_reducible refine Br.df ?_ ?_); (focus (first | assumption | omega)); conv => whnf))
          | ((with_reducible refine Ar.i64 ?_ ?_); (focus omega); conv => whnf)
          | ((with_reducible refine Nd.mk ?_ ?_); (focus (first | omega | rfl | assumption | (simp; done))); conv => whnf)
          | ((with_reducible refine Nc.go' (fun _ => ?_)); conv => whnf)
          | ((with_reducible refine SubS.suf ?_ ?_); (focus (omega)); conv => whnf)
          | ((with_reducible refine Fk.mk ?_ ?_) <;> (conv => whnf))
          | (with_reducible exact True.intro)
          | (first | (refine LdN.at 0 rfl (by first | exact Nat.le_of_ble_eq_true rfl | (simp; done)) ?_; conv => whnf) | (refine LdN.at 1 rfl (by first | exact Nat.le_of_ble_eq_true rfl | (simp; done)) ?_; conv => whnf) | (refine LdN.at 3 rfl (by first | exact Nat.le_of_ble_eq_true rfl | (simp; done)) ?_; conv => whnf))
          | (first | (refine St.at 0 rfl (by first | exact Nat.le_of_ble_eq_true rfl | (simp; done)) rfl ?_; conv => whnf) | (refine St.at 1 rfl (by first | exact Nat.le_of_ble_eq_true rfl | (simp; done)) rfl ?_; conv => whnf))
          | ((with_reducible refine Dr.tree (id := 8) Tryz.tysOk rfl (.one 1 0 (.fork 0 1 (.one 2 3 (.one 3 0 (.one 4 3 .nil))) (.fork 2 3 (.one 0 1 (.one 3 0 (.one 4 3 .nil))) .nil))) ?_ _ ?_ (fun _ _ h => h)); (focus kernel_rfl); conv => whnf)
          | (first | ((with_reducible refine (?_ : Cl _ 27 _ _ _ _)); (refine Cl.is (hg _) ?_); conv => whnf) | ((with_reducible refine (?_ : Cl _ 28 _ _ _ _)); (refine Cl.is (hsz _) ?_); conv => whnf))
          | ((with_reducible refine (?_ : Sm _ (Builtin.append_ _ _ _) _ _)); (((with_reducible apply (Sm.appAt (E := pcE) (et := 48) Tryz.tysOk 3)); (focus rfl)); (rotate_left; (focus (exact Rd.ptc 0 rfl [⟨_, _, _, _, _, _⟩] rfl)); rotate_right; (focus rfl)); (focus rfl); (focus rfl); (focus rfl); (focus rfl); (focus rfl); (focus rfl); (focus ((simp only [List.length_append, List.length_cons, List.length_nil]); omega)); (intro _ _ _ _); conv => whnf)))
        all_goals (rename_i a5 c5 hc5 had5; exact Again5.mk ⟨k + 4, (a5, c5, ys ++ [pcI s k]), (), (), (), by kernel_rfl, by (try dsimp only); (refine FEnt.ent ?_; (repeat (first | exact FEnt.rfl | (refine FEnt.at 0 rfl ?_; (try simp only [List.eraseIdx_cons_zero, List.eraseIdx_cons_succ, List.eraseIdx_zero, List.tail_cons])) | refine FEnt.drop ?_)); done), ⟨by omega, by rw [List.length_append]; simp only [List.length_cons, List.length_nil]; omega, e, hc5, had5⟩, by omega⟩)
      · have hg : ∃ e : Int, e ≠ 0 ∧ ∀ L, Con Tryz.prog 27 [.string (s.extract k s.size)] L (Is (.tuple #[insV 0 0 0, i64W e]) L) := by
          by_cases h4 : k + 4 ≤ s.size
          · exact ⟨12, by omega, fun L => Tryz.codeGetNo (s.extract k s.size) L (by omega) (by omega) (fun h => hi ⟨h4, h⟩)⟩
          · exact ⟨5, by omega, fun L => Tryz.codeGetEnd (s.extract k s.size) L (by omega)⟩
        obtain ⟨er, her, hg⟩ := hg
        rw [cut_b hk hi] at g3
        have e : (ys ++ [pcB s k]) ++ cutF s (k + 1) = cutF s 0 := by rw [← g3, List.append_assoc]; rfl
        have hsz := fun L => Tryz.disSize (pcB s k) L
        rw [show (pcB s k).i = false from rfl, if_neg (by decide)] at hsz
        clear hi hz g3
        conv => whnf
        repeat' (first
          | ((with_reducible refine Br.df ?_ ?_); (focus (first | assumption | omega)); conv => whnf)
          | (first | ((with_reducible refine Ar.i64b ?_); conv => whnf) | ((with_reducible refine Ar.i64 ?_ ?_); (focus omega); conv => whnf))
          | ((with_reducible refine Nd.mk ?_ ?_); (focus (first | omega | rfl | assumption | (simp; done))); conv => whnf)
          | ((with_reducible refine Nc.go' (fun _ => ?_)); conv => whnf)
          | ((with_reducible refine SIx.nat ?_ ?_); (focus (omega)); conv => whnf)
          | ((with_reducible refine SubS.suf ?_ ?_); (focus (omega)); conv => whnf)
          | (first | (refine LdN.at 1 rfl (by first | exact Nat.le_of_ble_eq_true rfl | (simp; done)) ?_; conv => whnf) | (refine LdN.at 3 rfl (by first | exact Nat.le_of_ble_eq_true rfl | (simp; done)) ?_; conv => whnf))
          | (first | (refine St.at 0 rfl (by first | exact Nat.le_of_ble_eq_true rfl | (simp; done)) rfl ?_; conv => whnf) | (refine St.at 1 rfl (by first | exact Nat.le_of_ble_eq_true rfl | (simp; done)) rfl ?_; conv => whnf))
          | (first | ((with_reducible refine (?_ : Cl _ 27 _ _ _ _)); (refine Cl.is (hg _) ?_); conv => whnf) | ((with_reducible refine (?_ : Cl _ 28 _ _ _ _)); (refine Cl.is (hsz _) ?_); conv => whnf))
          | ((with_reducible refine (?_ : Sm _ (Builtin.append_ _ _ _) _ _)); (((with_reducible apply (Sm.appAt (E := pcE) (et := 48) Tryz.tysOk 3)); (focus rfl)); (rotate_left; (focus (exact Rd.ptc 0 rfl [⟨_, _, _, _, _, _⟩] rfl)); rotate_right; (focus rfl)); (focus rfl); (focus rfl); (focus rfl); (focus rfl); (focus rfl); (focus rfl); (focus ((simp only [List.length_append, List.length_cons, List.length_nil]); omega)); (intro _ _ _ _); conv => whnf)))
        all_goals try (exfalso; omega)
        all_goals (rename_i a5 c5 hc5 had5; exact Again5.mk ⟨k + 1, (a5, c5, ys ++ [pcB s k]), (), (), (), by kernel_rfl, by (try dsimp only); (refine FEnt.ent ?_; (repeat (first | exact FEnt.rfl | (refine FEnt.at 0 rfl ?_; (try simp only [List.eraseIdx_cons_zero, List.eraseIdx_cons_succ, List.eraseIdx_zero, List.tail_cons])) | refine FEnt.drop ?_)); done), ⟨by omega, by rw [List.length_append]; simp only [List.length_cons, List.length_nil]; omega, e, hc5, had5⟩, by omega⟩)
    · rw [cut_e (by omega), List.append_nil] at g3
      subst g3
      conv => whnf
      repeat' ((with_reducible refine Br.dt ?_ ?_); (focus (first | assumption | omega)); conv => whnf)
      all_goals exact New.of rfl g4 g5 (by (exact Ent.rfl))
end Go.Proofs
