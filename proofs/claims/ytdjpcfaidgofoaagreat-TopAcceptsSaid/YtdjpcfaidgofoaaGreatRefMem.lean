/- The document's memory, a list of numbers: contracts. -/
import Derived.Test.YtdjpcfaidgofoaaGreatEngReg
import Derived.Test.YtdjpcfaidgofoaaGreatCode
set_option linter.all false
namespace Go.Proofs
open Go.Eng
set_option linter.unusedVariables false
set_option maxRecDepth 100000
set_option maxHeartbeats 600000

/-- a memory -/
def Tryz.memH (b : Nat) (xs : List UInt8) : HP := fun e h => ∃ (a : Option Addr) (c : Nat), xs.length ≤ c ∧ Ad a xs.length ∧ Parts e [ptc b 125 [.slice a xs.length c], own u8E 5 a c xs] h
theorem Tryz.memOpen {P : Program} {f : FuncId} {args : List Value} {b : Nat} {xs : List UInt8} {L : List HP} {R : Value → List HP → Prop} {X : List PanicEntry → List HP → Prop}
    (k : ∀ a c, xs.length ≤ c → Ad a xs.length → Con P f args (ptc b 125 [.slice a xs.length c] :: own u8E 5 a c xs :: L) R X) : Con P f args (Tryz.memH b xs :: L) R X := by
  refine ⟨(k (some ⟨0, 0, none⟩) xs.length (Nat.le_refl _) (fun _ => rfl)).ent, fun w s => ?_⟩
  obtain ⟨c, ⟨h1, h2, rfl, ⟨a, c, hc, had, hp⟩, hl⟩, ok⟩ := s
  exact (k a c hc had).run w ⟨_, (parts_append (L := [_, _])).2 ⟨h1, h2, rfl, hp, hl⟩, ok⟩
theorem Tryz.memShut {b c n : Nat} {a : Option Addr} {xs : List UInt8} {L M : List HP}
    (h : FEnt L (ptc b 125 [.slice a n c] :: own u8E 5 a c xs :: M)) (hn : n = xs.length) (hc : xs.length ≤ c) (had : Ad a xs.length) : FEnt L (Tryz.memH b xs :: M) := fun K w s => by
  subst hn
  have s1 := h K w s
  have e : K ++ ptc b 125 [.slice a xs.length c] :: own u8E 5 a c xs :: M = (K ++ [ptc b 125 [.slice a xs.length c], own u8E 5 a c xs]) ++ M := by simp
  rw [e] at s1
  have s2 : Sat w ([ptc b 125 [.slice a xs.length c], own u8E 5 a c xs] ++ (K ++ M)) := s1.perm (by rw [← List.append_assoc]; exact List.perm_append_comm.append_right M)
  have s3 : Sat w (Tryz.memH b xs :: (K ++ M)) := s2.shut fun e c' hp => ⟨a, c, hc, had, hp⟩
  exact s3.perm List.perm_middle.symm

/-- are so many places there? -/
abbrev thr (len : Nat) (at_ n : Int) : Prop := 0 ≤ at_ ∧ at_ + n ≤ len
/-- the error of so many places from one on -/
def thrF (len : Nat) (at_ n : Int) : Int := if n < 0 then 2 else if thr len at_ n then 0 else 6
theorem thrF_ok {len : Nat} {at_ n : Int} (h0 : 0 ≤ n) (h : thr len at_ n) : thrF len at_ n = 0 := by unfold thrF; rw [if_neg (by omega), if_pos h]
theorem thrF_no {len : Nat} {at_ n : Int} (h0 : 0 ≤ n) (h : ¬ thr len at_ n) : thrF len at_ n = 6 := by unfold thrF; rw [if_neg (by omega), if_neg h]
abbrev pV (b : Nat) : Value := .pointer (some ⟨b, 0, none⟩)
abbrev i64V (n : Int) : Value := .int .i64 n
theorem Tryz.memThere (b len c : Nat) (a : Option Addr) (at_ n : Int) (L : List HP) (hl : len ≤ 1000000000) (ha : I64 at_) (hn : I64 n) :
    Con Tryz.prog 134 [pV b, .int .i64 at_, .int .i64 n] (ptc b 125 [.slice a len c] :: L) (Is (.int .i64 (thrF len at_ n)) (ptc b 125 [.slice a len c] :: L)) := by
  refine con_of Tryz.tysOk Tryz.func134 rfl rfl ?_
  conv => whnf
  repeat' (first
    | (first | ((with_reducible refine Br.tt ?_); conv => whnf) | ((with_reducible refine Br.ff ?_); conv => whnf) | ((with_reducible refine Br.sn ?_); conv => whnf))
    | ((with_reducible refine Ar.i64 ?_ ?_); (focus omega); conv => whnf)
    | (refine Ld.at 0 rfl rfl ?_; conv => whnf)
    | ((with_reducible refine Br.ds (fun _ => ?_) (fun _ => ?_) ) <;> (conv => whnf)))
  all_goals (refine Is.ent (by (exact Ent.rfl)) (Is.int ?_); unfold thrF; repeat' split)
  all_goals omega
theorem Con.eq {P : Program} {f : FuncId} {args : List Value} {L : List HP} {v v' : Value} {M : List HP} {X : List PanicEntry → List HP → Prop} (h : v = v') (c : Con P f args L (Is v M) X) : Con P f args L (Is v' M) X := h ▸ c
theorem Tryz.memOk (b len c : Nat) (a : Option Addr) (at_ n : Int) (L : List HP) (hl : len ≤ 1000000000) (hn : 0 ≤ n) (h : thr len at_ n) :
    Con Tryz.prog 134 [pV b, .int .i64 at_, .int .i64 n] (ptc b 125 [.slice a len c] :: L) (Is (.int .i64 0) (ptc b 125 [.slice a len c] :: L)) :=
  Con.eq (by rw [thrF_ok hn h]) (Tryz.memThere b len c a at_ n L hl ⟨by omega, by omega⟩ ⟨by omega, by omega⟩)
theorem Tryz.memNo (b len c : Nat) (a : Option Addr) (at_ n : Int) (L : List HP) (hl : len ≤ 1000000000) (ha : I64 at_) (hi : I64 n) (hn : 0 ≤ n) (h : ¬ thr len at_ n) :
    Con Tryz.prog 134 [pV b, .int .i64 at_, .int .i64 n] (ptc b 125 [.slice a len c] :: L) (Is (.int .i64 6) (ptc b 125 [.slice a len c] :: L)) :=
  Con.eq (by rw [thrF_no hn h]) (Tryz.memThere b len c a at_ n L hl ha hi)
theorem Tryz.memThereNil (at_ n : Int) (L : List HP) : Con Tryz.prog 134 [.pointer none, .int .i64 at_, .int .i64 n] L (Is (.int .i64 1) L) := by
  refine con_of Tryz.tysOk Tryz.func134 rfl rfl ?_
  conv => whnf
  repeat' ((with_reducible refine Br.nn ?_); conv => whnf)
  all_goals (refine Is.ent ?_ ?_; (focus (exact Ent.rfl)); (exact Is.rfl))

/-- a byte, as a number -/
abbrev bAt (xs : List UInt8) (i : Nat) : Int := ((xs.getD i 0).toNat : Int)
theorem Tryz.memGet (b : Nat) (xs : List UInt8) (k : Nat) (at_ : Int) (L : List HP) (hl : xs.length ≤ 1000000000) (ha : at_ = k) (h : k + 1 ≤ xs.length) :
    Con Tryz.prog 214 [pV b, i64V at_] (Tryz.memH b xs :: L) (Is (.tuple #[i64V (bAt xs k), i64V 0]) (Tryz.memH b xs :: L)) := by
  subst ha
  refine Tryz.memOpen fun a c hc had => ?_
  refine con_of Tryz.tysOk Tryz.func214 rfl rfl ?_
  conv => whnf
  repeat' (first
    | ((with_reducible refine Br.ndf ?_ ?_); (focus (first | assumption | omega)); conv => whnf)
    | ((with_reducible refine Ar.i64b ?_); conv => whnf)
    | ((with_reducible refine Ix.ad ?_ ?_ ?_); (focus (assumption)); (focus (omega)); conv => whnf)
    | (first | ((with_reducible apply Ld.rdk0); (focus ((repeat ((refine Rd.own 1 rfl ?_); (assumption))); done)); (focus rfl); (focus (omega)); (focus rfl); conv => whnf) | (refine Ld.at 0 rfl rfl ?_; conv => whnf))
    | ((with_reducible refine Cl.is (Tryz.memOk b _ c a _ _ _ hl (by omega) ⟨by omega, by omega⟩) ?_); conv => whnf))
  all_goals (refine Is.ent ?_ ?_; (focus (refine FEnt.ent ?_; (repeat (first | exact FEnt.rfl | (apply Tryz.memShut) | rfl | assumption)); done)); (exact Is.rfl))
theorem Tryz.memGetNo (b : Nat) (xs : List UInt8) (at_ : Int) (L : List HP) (hl : xs.length ≤ 1000000000) (ha : I64 at_) (h : ¬ thr xs.length at_ 1) :
    Con Tryz.prog 214 [pV b, i64V at_] (Tryz.memH b xs :: L) (Is (.tuple #[i64V 0, i64V 6]) (Tryz.memH b xs :: L)) := by
  refine Tryz.memOpen fun a c hc had => ?_
  refine con_of Tryz.tysOk Tryz.func214 rfl rfl ?_
  conv => whnf
  repeat' (first
    | ((with_reducible refine Br.ndt ?_ ?_); (focus (first | assumption | omega)); conv => whnf)
    | ((with_reducible refine Cl.is (Tryz.memNo b _ c a _ _ _ hl ha ⟨by omega, by omega⟩ (by omega) h) ?_); conv => whnf))
  all_goals (refine Is.ent ?_ ?_; (focus (refine FEnt.ent ?_; (repeat (first | exact FEnt.rfl | (apply Tryz.memShut) | rfl | assumption)); done)); (exact Is.rfl))
theorem Tryz.memSet (b : Nat) (xs : List UInt8) (k : Nat) (at_ n : Int) (L : List HP) (hl : xs.length ≤ 1000000000) (ha : at_ = k) (h : k + 1 ≤ xs.length) :
    Con Tryz.prog 212 [pV b, i64V at_, i64V n] (Tryz.memH b xs :: L) (Is (i64V 0) (Tryz.memH b (xs.set k (u8of n)) :: L)) := by
  subst ha
  refine Tryz.memOpen fun a c hc had => ?_
  refine con_of Tryz.tysOk Tryz.func212 rfl rfl ?_
  conv => whnf
  repeat' (first
    | ((with_reducible refine Br.dt ?_ ?_); (focus (first | assumption | omega)); conv => whnf)
    | ((with_reducible refine Ar.u8b ?_); conv => whnf)
    | ((with_reducible refine Nd.mk ?_ ?_); (focus (first | omega | rfl | assumption | (simp; done))); conv => whnf)
    | ((with_reducible refine Ix.ad ?_ ?_ ?_); (focus (assumption)); (focus (omega)); conv => whnf)
    | (refine Ld.at 0 rfl rfl ?_; conv => whnf)
    | ((with_reducible refine Cl.is (Tryz.memOk b _ c a _ _ _ hl (by omega) ⟨by omega, by omega⟩) ?_); conv => whnf)
    | ((refine St.own0k 1 rfl rfl (by omega) (u8of n) rfl (Nat.le_refl _) rfl ?_); conv => whnf))
  all_goals (refine Is.ent ?_ ?_; (focus (refine FEnt.ent ?_; (repeat (first | exact FEnt.rfl | (apply Tryz.memShut) | ((rw [List.length_set]); (try assumption)))); done)); (exact Is.rfl))
theorem Tryz.memSetNo (b : Nat) (xs : List UInt8) (at_ n : Int) (L : List HP) (hl : xs.length ≤ 1000000000) (ha : I64 at_) (h : ¬ thr xs.length at_ 1) :
    Con Tryz.prog 212 [pV b, i64V at_, i64V n] (Tryz.memH b xs :: L) (Is (i64V 6) (Tryz.memH b xs :: L)) := by
  refine Tryz.memOpen fun a c hc had => ?_
  refine con_of Tryz.tysOk Tryz.func212 rfl rfl ?_
  conv => whnf
  repeat' (first
    | ((with_reducible refine Br.df ?_ ?_); (focus (first | assumption | omega)); conv => whnf)
    | ((with_reducible refine Cl.is (Tryz.memNo b _ c a _ _ _ hl ha ⟨by omega, by omega⟩ (by omega) h) ?_); conv => whnf))
  all_goals (refine Is.ent ?_ ?_; (focus (refine FEnt.ent ?_; (repeat (first | exact FEnt.rfl | (apply Tryz.memShut) | rfl | assumption)); done)); (exact Is.rfl))
theorem Tryz.memSet2 (b : Nat) (xs : List UInt8) (k : Nat) (at_ n : Int) (L : List HP) (hl : xs.length ≤ 1000000000) (ha : at_ = k) (hn : I64 n) (h : k + 2 ≤ xs.length) :
    Con Tryz.prog 239 [pV b, i64V at_, i64V n] (Tryz.memH b xs :: L) (Is (i64V 0) (Tryz.memH b (lay xs k (putB n)) :: L)) := by
  subst ha
  have hp : ByteArray.size ⟨(putB n).toArray⟩ = 2 := rfl
  have hq : (putB n).length = 2 := rfl
  refine Tryz.memOpen fun a c hc had => ?_
  refine con_of Tryz.tysOk Tryz.func239 rfl rfl ?_
  conv => whnf
  repeat' (first
    | ((with_reducible refine Br.dt ?_ ?_); (focus (first | assumption | omega)); conv => whnf)
    | ((with_reducible refine Sub.suf rfl ?_ ?_ ?_); (focus (omega)); (focus (omega)); conv => whnf)
    | (refine Ld.at 0 rfl rfl ?_; conv => whnf)
    | ((with_reducible refine Dr.by (id := 3) Tryz.tysOk rfl [(0, 0), (1, 0), (2, 0), (4, 0), (6, 0), (3, 1), (5, 0), (7, 1), (8, 3)] ?_ ?_); (focus kernel_rfl); conv => whnf)
    | ((with_reducible refine CD.is (fun M => Tryz.put n hn _) ?_); conv => whnf)
    | ((with_reducible refine Cl.is (Tryz.memOk b _ c a _ _ _ hl (by omega) ⟨by omega, by omega⟩) ?_); conv => whnf)
    | ((with_reducible refine (?_ : Sm _ (Builtin.copy_ _ _ _) _ _)); ((apply (Sm.cpS Tryz.tysOk 1)); (focus rfl); (focus rfl); (focus rfl); (focus rfl); (focus rfl); (focus rfl); (focus (omega)); (focus (omega)); conv => whnf)))
  all_goals (refine Is.ent ?_ ?_; (focus (refine FEnt.ent ?_; (repeat (first | exact FEnt.rfl | (apply Tryz.memShut) | ((rw [lay_len (by (omega))]); (try assumption)))); done)); (exact Is.rfl))
theorem Tryz.memSet2No (b : Nat) (xs : List UInt8) (at_ n : Int) (L : List HP) (hl : xs.length ≤ 1000000000) (ha : I64 at_) (h : ¬ thr xs.length at_ 2) :
    Con Tryz.prog 239 [pV b, i64V at_, i64V n] (Tryz.memH b xs :: L) (Is (i64V 6) (Tryz.memH b xs :: L)) := by
  refine Tryz.memOpen fun a c hc had => ?_
  refine con_of Tryz.tysOk Tryz.func239 rfl rfl ?_
  conv => whnf
  repeat' (first
    | ((with_reducible refine Br.df ?_ ?_); (focus (first | assumption | omega)); conv => whnf)
    | ((with_reducible refine Cl.is (Tryz.memNo b _ c a _ _ _ hl ha ⟨by omega, by omega⟩ (by omega) h) ?_); conv => whnf))
  all_goals (refine Is.ent ?_ ?_; (focus (refine FEnt.ent ?_; (repeat (first | exact FEnt.rfl | (apply Tryz.memShut) | rfl | assumption)); done)); (exact Is.rfl))
theorem Tryz.memText (b : Nat) (xs : List UInt8) (k m : Nat) (at_ n : Int) (L : List HP) (hl : xs.length ≤ 1000000000) (ha : at_ = k) (hn : n = m) (h : k + m ≤ xs.length) :
    Con Tryz.prog 73 [pV b, i64V at_, i64V n] (Tryz.memH b xs :: L) (Is (.tuple #[.string ⟨((xs.take (k + m)).drop k).toArray⟩, i64V 0]) (Tryz.memH b xs :: L)) := by
  subst ha hn
  refine Tryz.memOpen fun a c hc had => ?_
  refine con_of Tryz.tysOk Tryz.func73 rfl rfl ?_
  conv => whnf
  repeat' (first
    | ((with_reducible refine Br.ndf ?_ ?_); (focus (first | assumption | omega)); conv => whnf)
    | ((with_reducible refine Ar.i64 ?_ ?_); (focus omega); conv => whnf)
    | ((with_reducible refine Sub.mid rfl ?_ ?_ ?_); (focus (omega)); (focus (omega)); conv => whnf)
    | (refine Ld.at 0 rfl rfl ?_; conv => whnf)
    | ((with_reducible refine Cl.is (Tryz.memOk b _ c a _ _ _ hl (by omega) ⟨by omega, by omega⟩) ?_); conv => whnf)
    | ((with_reducible refine (?_ : Sm _ (convert _ _ _) _ _)); ((apply (Sm.b2s Tryz.tysOk)); ((focus rfl); (focus ((repeat (first | ((refine Rd.own 1 rfl ?_); (assumption)) | refine Rd.take ?_ _ | refine Rd.drop ?_ _ _ (by (simp only [List.length_set, List.length_append, List.length_take, List.length_drop, List.length_cons, List.length_nil] at *; omega)))); done))); (focus rfl); (focus rfl); (focus rfl); (focus rfl); (focus rfl); (focus rfl); conv => whnf)))
  all_goals (refine Is.ent ?_ ?_; (focus (refine FEnt.ent ?_; (repeat (first | exact FEnt.rfl | (apply Tryz.memShut) | rfl | assumption)); done)); (exact Is.rfl))
theorem Tryz.memTextNo (b : Nat) (xs : List UInt8) (at_ n : Int) (L : List HP) (hl : xs.length ≤ 1000000000) (ha : I64 at_) (hi : I64 n) (hn : 0 ≤ n) (h : ¬ thr xs.length at_ n) :
    Con Tryz.prog 73 [pV b, i64V at_, i64V n] (Tryz.memH b xs :: L) (Is (.tuple #[.string ByteArray.empty, i64V 6]) (Tryz.memH b xs :: L)) := by
  refine Tryz.memOpen fun a c hc had => ?_
  refine con_of Tryz.tysOk Tryz.func73 rfl rfl ?_
  conv => whnf
  repeat' (first
    | ((with_reducible refine Br.ndt ?_ ?_); (focus (first | assumption | omega)); conv => whnf)
    | ((with_reducible refine Cl.is (Tryz.memNo b _ c a _ _ _ hl ha hi hn h) ?_); conv => whnf))
  all_goals (refine Is.ent ?_ ?_; (focus (refine FEnt.ent ?_; (repeat (first | exact FEnt.rfl | (apply Tryz.memShut) | rfl | assumption)); done)); (exact Is.rfl))
theorem Tryz.memTextArg (b : Nat) (xs : List UInt8) (at_ n : Int) (L : List HP) (hl : xs.length ≤ 1000000000) (ha : I64 at_) (hi : I64 n) (hn : n < 0) :
    Con Tryz.prog 73 [pV b, i64V at_, i64V n] (Tryz.memH b xs :: L) (Is (.tuple #[.string ByteArray.empty, i64V 2]) (Tryz.memH b xs :: L)) := by
  have e : thrF xs.length at_ n = 2 := by unfold thrF; rw [if_pos hn]
  refine Tryz.memOpen fun a c hc had => ?_
  refine con_of Tryz.tysOk Tryz.func73 rfl rfl ?_
  conv => whnf
  repeat' (first
    | ((with_reducible refine Br.ndt ?_ ?_); (focus (first | assumption | omega)); conv => whnf)
    | ((with_reducible refine Cl.is (Con.eq (by rw [e]) (Tryz.memThere b _ c a _ _ _ hl ha hi)) ?_); conv => whnf))
  all_goals (refine Is.ent ?_ ?_; (focus (refine FEnt.ent ?_; (repeat (first | exact FEnt.rfl | (apply Tryz.memShut) | rfl | assumption)); done)); (exact Is.rfl))
theorem Tryz.memPut (b : Nat) (xs : List UInt8) (k : Nat) (at_ : Int) (s : ByteArray) (L : List HP) (hl : xs.length ≤ 1000000000) (ha : at_ = k) (h : k + s.size ≤ xs.length) :
    Con Tryz.prog 74 [pV b, i64V at_, .string s] (Tryz.memH b xs :: L) (Is (i64V 0) (Tryz.memH b (lay xs k s.data.toList) :: L)) := by
  subst ha
  have hp : s.data.toList.length = s.size := size_list s
  refine Tryz.memOpen fun a c hc had => ?_
  refine con_of Tryz.tysOk Tryz.func74 rfl rfl ?_
  conv => whnf
  repeat' (first
    | ((with_reducible refine Br.dt ?_ ?_); (focus (first | assumption | omega)); conv => whnf)
    | ((with_reducible refine Sub.suf rfl ?_ ?_ ?_); (focus (omega)); (focus (omega)); conv => whnf)
    | (refine Ld.at 0 rfl rfl ?_; conv => whnf)
    | ((with_reducible refine Cl.is (Tryz.memOk b _ c a _ _ _ hl (by omega) ⟨by omega, by omega⟩) ?_); conv => whnf)
    | ((with_reducible refine (?_ : Sm _ (Builtin.copy_ _ _ _) _ _)); ((apply (Sm.cpS Tryz.tysOk 1)); (focus rfl); (focus rfl); (focus rfl); (focus rfl); (focus rfl); (focus rfl); (focus (omega)); (focus (omega)); conv => whnf)))
  all_goals (refine Is.ent ?_ ?_; (focus (refine FEnt.ent ?_; (repeat (first | exact FEnt.rfl | (apply Tryz.memShut) | ((rw [lay_len (by (omega))]); (try assumption)))); done)); (exact Is.rfl))
theorem Tryz.memPutNo (b : Nat) (xs : List UInt8) (at_ : Int) (s : ByteArray) (L : List HP) (hl : xs.length ≤ 1000000000) (ha : I64 at_) (hs : s.size ≤ 9223372036854775807) (h : ¬ thr xs.length at_ s.size) :
    Con Tryz.prog 74 [pV b, i64V at_, .string s] (Tryz.memH b xs :: L) (Is (i64V 6) (Tryz.memH b xs :: L)) := by
  refine Tryz.memOpen fun a c hc had => ?_
  refine con_of Tryz.tysOk Tryz.func74 rfl rfl ?_
  conv => whnf
  repeat' (first
    | ((with_reducible refine Br.df ?_ ?_); (focus (first | assumption | omega)); conv => whnf)
    | ((with_reducible refine Cl.is (Tryz.memNo b _ c a _ _ _ hl ha ⟨by omega, by omega⟩ (by omega) h) ?_); conv => whnf))
  all_goals (refine Is.ent ?_ ?_; (focus (refine FEnt.ent ?_; (repeat (first | exact FEnt.rfl | (apply Tryz.memShut) | rfl | assumption)); done)); (exact Is.rfl))
/-- a new memory -/
abbrev zeros (n : Nat) : List UInt8 := List.replicate n 0
theorem Tryz.memNewO (n : Int) (L : List HP) (hn : I64 n) :
    Con Tryz.prog 22 [i64V n] L (Exs (fun x : Nat × Nat => pV x.1) (fun x => ptc x.1 125 [.slice (some ⟨x.2, 0, none⟩) (zeros (min (max n 0) 16384).toNat).length (zeros (min (max n 0) 16384).toNat).length] :: own u8E 5 (some ⟨x.2, 0, none⟩) (zeros (min (max n 0) 16384).toNat).length (zeros (min (max n 0) 16384).toNat) :: L) (fun _ => True)) := by
  refine con_of Tryz.tysOk Tryz.func22 rfl rfl ?_
  conv => whnf
  repeat' (first
    | ((with_reducible refine Nc.go' (fun _ => ?_)); conv => whnf)
    | ((with_reducible apply (Mk.own u8E)); (focus rfl); (focus (omega)); (focus rfl); (intro _); conv => whnf))
  all_goals exact Exs.of (_, _) Ent.rfl trivial rfl
theorem Tryz.memGetNil (at_ : Int) (L : List HP) : Con Tryz.prog 214 [.pointer none, i64V at_] L (Is (.tuple #[i64V 0, i64V 1]) L) := by
  refine con_of Tryz.tysOk Tryz.func214 rfl rfl ?_
  conv => whnf
  repeat' (first
    | ((with_reducible refine Br.ndt ?_ ?_); (focus (first | assumption | omega)); conv => whnf)
    | ((with_reducible refine Cl.is (Tryz.memThereNil _ _ _) ?_); conv => whnf))
  all_goals (refine Is.ent ?_ ?_; (focus (exact Ent.rfl)); (exact Is.rfl))
theorem Tryz.memTextNil (at_ n : Int) (L : List HP) : Con Tryz.prog 73 [.pointer none, i64V at_, i64V n] L (Is (.tuple #[.string ByteArray.empty, i64V 1]) L) := by
  refine con_of Tryz.tysOk Tryz.func73 rfl rfl ?_
  conv => whnf
  repeat' (first
    | ((with_reducible refine Br.ndt ?_ ?_); (focus (first | assumption | omega)); conv => whnf)
    | ((with_reducible refine Cl.is (Tryz.memThereNil _ _ _) ?_); conv => whnf))
  all_goals (refine Is.ent ?_ ?_; (focus (exact Ent.rfl)); (exact Is.rfl))
theorem Tryz.memSetNil (at_ n : Int) (L : List HP) : Con Tryz.prog 212 [.pointer none, i64V at_, i64V n] L (Is (i64V 1) L) := by
  refine con_of Tryz.tysOk Tryz.func212 rfl rfl ?_
  conv => whnf
  repeat' (first
    | ((with_reducible refine Br.df ?_ ?_); (focus (first | assumption | omega)); conv => whnf)
    | ((with_reducible refine Cl.is (Tryz.memThereNil _ _ _) ?_); conv => whnf))
  all_goals (refine Is.ent ?_ ?_; (focus (exact Ent.rfl)); (exact Is.rfl))
theorem Tryz.memSet2Nil (at_ n : Int) (L : List HP) : Con Tryz.prog 239 [.pointer none, i64V at_, i64V n] L (Is (i64V 1) L) := by
  refine con_of Tryz.tysOk Tryz.func239 rfl rfl ?_
  conv => whnf
  repeat' (first
    | ((with_reducible refine Br.df ?_ ?_); (focus (first | assumption | omega)); conv => whnf)
    | ((with_reducible refine Cl.is (Tryz.memThereNil _ _ _) ?_); conv => whnf))
  all_goals (refine Is.ent ?_ ?_; (focus (exact Ent.rfl)); (exact Is.rfl))
theorem Tryz.memPutNil (at_ : Int) (s : ByteArray) (L : List HP) : Con Tryz.prog 74 [.pointer none, i64V at_, .string s] L (Is (i64V 1) L) := by
  refine con_of Tryz.tysOk Tryz.func74 rfl rfl ?_
  conv => whnf
  repeat' (first
    | ((with_reducible refine Br.df ?_ ?_); (focus (first | assumption | omega)); conv => whnf)
    | ((with_reducible refine Cl.is (Tryz.memThereNil _ _ _) ?_); conv => whnf))
  all_goals (refine Is.ent ?_ ?_; (focus (exact Ent.rfl)); (exact Is.rfl))
theorem Tryz.memNew (n : Int) (L : List HP) (hn : I64 n) :
    Con Tryz.prog 22 [i64V n] L (Exs pV (fun b => Tryz.memH b (zeros (min (max n 0) 16384).toNat) :: L) (fun _ => True)) := by
  refine con_of Tryz.tysOk Tryz.func22 rfl rfl ?_
  conv => whnf
  repeat' (first
    | ((with_reducible refine Nc.go' (fun _ => ?_)); conv => whnf)
    | ((with_reducible apply (Mk.own u8E)); (focus rfl); (focus (omega)); (focus rfl); (intro _); conv => whnf))
  all_goals (refine Exs.of _ ?_ trivial rfl; (refine FEnt.ent ?_; (repeat (first | exact FEnt.rfl | (apply Tryz.memShut) | rfl | exact fun _ => rfl | ((simp only [List.length_set, List.length_append, List.length_take, List.length_drop, List.length_replicate, List.length_cons, List.length_nil]); omega))); done))
end Go.Proofs
set_option linter.all false
namespace Go.Proofs
open Go.Eng
set_option linter.unusedVariables false
set_option maxRecDepth 100000
set_option maxHeartbeats 600000
/-- bytes as numbers -/
abbrev ints (xs : List UInt8) : List Int := xs.map fun u => (u.toNat : Int)
theorem ints_len (xs : List UInt8) : (ints xs).length = xs.length := by simp
theorem ints_getD (xs : List UInt8) (i : Nat) : (ints xs).getD i 0 = bAt xs i := by
  simp only [List.getD, ints, List.getElem?_map, bAt]
  cases xs[i]? <;> rfl
theorem ints_lay (xs ys : List UInt8) (k : Nat) : ints (lay xs k ys) = lay (ints xs) k (ints ys) := by
  simp [lay, ints, List.map_take, List.map_drop]
theorem u8of_ints (xs : List UInt8) : (ints xs).map u8of = xs := by
  rw [ints, List.map_map]
  have : (u8of ∘ fun u : UInt8 => (u.toNat : Int)) = id := by funext u; exact u8of_toNat u
  rw [this, List.map_id]
/-- the lower byte -/
abbrev low (n : Int) : Int := n % 256
theorem ints_u8of (ls : List Int) : ints (ls.map u8of) = ls.map low := by
  rw [ints, List.map_map]
  congr 1
  funext n; exact u8of_int n
theorem lay_snoc {α : Type} {xs ys : List α} {k : Nat} {y : α} (h : k + ys.length < xs.length) : (lay xs k ys).set (k + ys.length) y = lay xs k (ys ++ [y]) := by
  unfold lay
  have h1 : k + ys.length = (xs.take k ++ ys).length := by rw [List.length_append, List.length_take, Nat.min_eq_left (by omega)]
  rw [List.drop_eq_getElem_cons h, set_mid h1, List.length_append, List.length_singleton, ← Nat.add_assoc]
  simp
theorem take_snoc' {α : Type} {xs : List α} {k : Nat} (d : α) (h : k < xs.length) : xs.take (k + 1) = xs.take k ++ [xs.getD k d] := by
  rw [List.take_add_one]
  congr 1
  simp [List.getD, h]
end Go.Proofs
