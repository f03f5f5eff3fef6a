/- The memory: contracts of its functions. A memory is one part: its block and its bytes. -/
import Derived.Test.YtpdgkadpffnmpaaEngStr
import Derived.Test.YtpdgkadpffnmpaaBits
set_option linter.all false
namespace Go.Proofs
open Go.Eng
set_option linter.unusedVariables false
set_option maxRecDepth 100000
set_option maxHeartbeats 600000

/-- a memory -/
def Try.memH (b : Nat) (xs : List UInt8) : HP := fun e h => ∃ (a : Option Addr) (c : Nat), xs.length ≤ c ∧ Ad a xs.length ∧ Parts e [ptc b 71 [.slice a xs.length c], own u8E 5 a c xs] h
theorem Try.memOpen {P : Program} {f : FuncId} {args : List Value} {b : Nat} {xs : List UInt8} {L : List HP} {R : Value → List HP → Prop} {X : List PanicEntry → List HP → Prop}
    (k : ∀ a c, xs.length ≤ c → Ad a xs.length → Con P f args (ptc b 71 [.slice a xs.length c] :: own u8E 5 a c xs :: L) R X) : Con P f args (Try.memH b xs :: L) R X := by
  refine ⟨(k (some ⟨0, 0, none⟩) xs.length (Nat.le_refl _) (fun _ => rfl)).ent, fun w s => ?_⟩
  obtain ⟨c, ⟨h1, h2, rfl, ⟨a, c, hc, had, hp⟩, hl⟩, ok⟩ := s
  exact (k a c hc had).run w ⟨_, (parts_append (L := [_, _])).2 ⟨h1, h2, rfl, hp, hl⟩, ok⟩
theorem Try.memShut {b c n : Nat} {a : Option Addr} {xs : List UInt8} {L M : List HP}
    (h : FEnt L (ptc b 71 [.slice a n c] :: own u8E 5 a c xs :: M)) (hn : n = xs.length) (hc : xs.length ≤ c) (had : Ad a xs.length) : FEnt L (Try.memH b xs :: M) := fun K w s => by
  subst hn
  have s1 := h K w s
  have e : K ++ ptc b 71 [.slice a xs.length c] :: own u8E 5 a c xs :: M = (K ++ [ptc b 71 [.slice a xs.length c], own u8E 5 a c xs]) ++ M := by simp
  rw [e] at s1
  have s2 : Sat w ([ptc b 71 [.slice a xs.length c], own u8E 5 a c xs] ++ (K ++ M)) := s1.perm (by rw [← List.append_assoc]; exact List.perm_append_comm.append_right M)
  have s3 : Sat w (Try.memH b xs :: (K ++ M)) := s2.shut fun e c' hp => ⟨a, c, hc, had, hp⟩
  exact s3.perm List.perm_middle.symm

/-- are so many places there? -/
abbrev thr (len : Nat) (at_ n : Int) : Prop := 0 ≤ at_ ∧ at_ + n ≤ len
/-- the error of so many places from one on -/
def thrF (len : Nat) (at_ n : Int) : Int := if n < 0 then 2 else if thr len at_ n then 0 else 6
theorem thrF_ok {len : Nat} {at_ n : Int} (h0 : 0 ≤ n) (h : thr len at_ n) : thrF len at_ n = 0 := by unfold thrF; rw [if_neg (by omega), if_pos h]
theorem thrF_no {len : Nat} {at_ n : Int} (h0 : 0 ≤ n) (h : ¬ thr len at_ n) : thrF len at_ n = 6 := by unfold thrF; rw [if_neg (by omega), if_neg h]
abbrev pV (b : Nat) : Value := .pointer (some ⟨b, 0, none⟩)
abbrev i64V (n : Int) : Value := .int .i64 n
theorem Try.memThere (b len c : Nat) (a : Option Addr) (at_ n : Int) (L : List HP) (hl : len ≤ 1000000000) (ha : I64 at_) (hn : I64 n) :
    Con Try.prog 35 [pV b, .int .i64 at_, .int .i64 n] (ptc b 71 [.slice a len c] :: L) (Is (.int .i64 (thrF len at_ n)) (ptc b 71 [.slice a len c] :: L)) := by
  refine con_of Try.tysOk Try.func35 rfl rfl ?_
  conv => whnf
  repeat' (first
    | (first | ((with_reducible refine Br.tt ?_); conv => whnf) | ((with_reducible refine Br.ff ?_); conv => whnf) | ((with_reducible refine Br.sn ?_); conv => whnf))
    | ((with_reducible refine Ar.i64 ?_ ?_); (focus omega); conv => whnf)
    | (refine Ld.at 0 rfl rfl ?_; conv => whnf)
    | ((with_reducible refine Br.ds (fun _ => ?_) (fun _ => ?_) ) <;> (conv => whnf)))
  all_goals (refine Is.ent (by (exact Ent.rfl)) (Is.int ?_); unfold thrF; repeat' split)
  all_goals omega
theorem Con.eq {P : Program} {f : FuncId} {args : List Value} {L : List HP} {v v' : Value} {M : List HP} {X : List PanicEntry → List HP → Prop} (h : v = v') (c : Con P f args L (Is v M) X) : Con P f args L (Is v' M) X := h ▸ c
theorem Try.memOk (b len c : Nat) (a : Option Addr) (at_ n : Int) (L : List HP) (hl : len ≤ 1000000000) (hn : 0 ≤ n) (h : thr len at_ n) :
    Con Try.prog 35 [pV b, .int .i64 at_, .int .i64 n] (ptc b 71 [.slice a len c] :: L) (Is (.int .i64 0) (ptc b 71 [.slice a len c] :: L)) :=
  Con.eq (by rw [thrF_ok hn h]) (Try.memThere b len c a at_ n L hl ⟨by omega, by omega⟩ ⟨by omega, by omega⟩)
theorem Try.memNo (b len c : Nat) (a : Option Addr) (at_ n : Int) (L : List HP) (hl : len ≤ 1000000000) (ha : I64 at_) (hi : I64 n) (hn : 0 ≤ n) (h : ¬ thr len at_ n) :
    Con Try.prog 35 [pV b, .int .i64 at_, .int .i64 n] (ptc b 71 [.slice a len c] :: L) (Is (.int .i64 6) (ptc b 71 [.slice a len c] :: L)) :=
  Con.eq (by rw [thrF_no hn h]) (Try.memThere b len c a at_ n L hl ha hi)
theorem Try.memThereNil (at_ n : Int) (L : List HP) : Con Try.prog 35 [.pointer none, .int .i64 at_, .int .i64 n] L (Is (.int .i64 1) L) := by
  refine con_of Try.tysOk Try.func35 rfl rfl ?_
  conv => whnf
  repeat' ((with_reducible refine Br.nn ?_); conv => whnf)
  all_goals (refine Is.ent ?_ ?_; (focus (exact Ent.rfl)); (exact Is.rfl))

theorem Try.memSize (b : Nat) (xs : List UInt8) (L : List HP) : Con Try.prog 17 [pV b] (Try.memH b xs :: L) (Is (i64V xs.length) (Try.memH b xs :: L)) := by
  refine Try.memOpen fun a c hc had => ?_
  refine con_of Try.tysOk Try.func17 rfl rfl ?_
  conv => whnf
  repeat' (first
    | ((with_reducible refine Br.sn ?_); conv => whnf)
    | (refine Ld.at 0 rfl rfl ?_; conv => whnf))
  all_goals (refine Is.ent ?_ ?_; (focus (refine FEnt.ent ?_; (repeat (first | exact FEnt.rfl | (apply Try.memShut) | rfl | assumption)); done)); (exact Is.rfl))
theorem Try.memSizeNil (L : List HP) : Con Try.prog 17 [.pointer none] L (Is (i64V 0) L) := by
  refine con_of Try.tysOk Try.func17 rfl rfl ?_
  conv => whnf
  repeat' ((with_reducible refine Br.nn ?_); conv => whnf)
  all_goals (refine Is.ent ?_ ?_; (focus (exact Ent.rfl)); (exact Is.rfl))
/-- a byte, as a number -/
abbrev bAt (xs : List UInt8) (i : Nat) : Int := ((xs.getD i 0).toNat : Int)
theorem Try.memGet (b : Nat) (xs : List UInt8) (k : Nat) (at_ : Int) (L : List HP) (hl : xs.length ≤ 1000000000) (ha : at_ = k) (h : k + 1 ≤ xs.length) :
    Con Try.prog 39 [pV b, i64V at_] (Try.memH b xs :: L) (Is (.tuple #[i64V (bAt xs k), i64V 0]) (Try.memH b xs :: L)) := by
  subst ha
  refine Try.memOpen fun a c hc had => ?_
  refine con_of Try.tysOk Try.func39 rfl rfl ?_
  conv => whnf
  repeat' (first
    | ((with_reducible refine Br.ndf ?_ ?_); (focus (first | assumption | omega)); conv => whnf)
    | ((with_reducible refine Ar.i64b ?_); conv => whnf)
    | ((with_reducible refine Ix.ad ?_ ?_ ?_); (focus (assumption)); (focus (omega)); conv => whnf)
    | (first | ((with_reducible apply Ld.rdk0); (focus ((repeat ((refine Rd.own 1 rfl ?_); (assumption))); done)); (focus rfl); (focus (omega)); (focus rfl); conv => whnf) | (refine Ld.at 0 rfl rfl ?_; conv => whnf))
    | ((with_reducible refine Cl.is (Try.memOk b _ c a _ _ _ hl (by omega) ⟨by omega, by omega⟩) ?_); conv => whnf))
  all_goals (refine Is.ent ?_ ?_; (focus (refine FEnt.ent ?_; (repeat (first | exact FEnt.rfl | (apply Try.memShut) | rfl | assumption)); done)); (exact Is.rfl))
theorem Try.memGetNo (b : Nat) (xs : List UInt8) (at_ : Int) (L : List HP) (hl : xs.length ≤ 1000000000) (ha : I64 at_) (h : ¬ thr xs.length at_ 1) :
    Con Try.prog 39 [pV b, i64V at_] (Try.memH b xs :: L) (Is (.tuple #[i64V 0, i64V 6]) (Try.memH b xs :: L)) := by
  refine Try.memOpen fun a c hc had => ?_
  refine con_of Try.tysOk Try.func39 rfl rfl ?_
  conv => whnf
  repeat' (first
    | ((with_reducible refine Br.ndt ?_ ?_); (focus (first | assumption | omega)); conv => whnf)
    | ((with_reducible refine Cl.is (Try.memNo b _ c a _ _ _ hl ha ⟨by omega, by omega⟩ (by omega) h) ?_); conv => whnf))
  all_goals (refine Is.ent ?_ ?_; (focus (refine FEnt.ent ?_; (repeat (first | exact FEnt.rfl | (apply Try.memShut) | rfl | assumption)); done)); (exact Is.rfl))
theorem Try.memText (b : Nat) (xs : List UInt8) (k m : Nat) (at_ n : Int) (L : List HP) (hl : xs.length ≤ 1000000000) (ha : at_ = k) (hn : n = m) (h : k + m ≤ xs.length) :
    Con Try.prog 16 [pV b, i64V at_, i64V n] (Try.memH b xs :: L) (Is (.tuple #[.string ⟨((xs.take (k + m)).drop k).toArray⟩, i64V 0]) (Try.memH b xs :: L)) := by
  subst ha hn
  refine Try.memOpen fun a c hc had => ?_
  refine con_of Try.tysOk Try.func16 rfl rfl ?_
  conv => whnf
  repeat' (first
    | ((with_reducible refine Br.ndf ?_ ?_); (focus (first | assumption | omega)); conv => whnf)
    | ((with_reducible refine Ar.i64 ?_ ?_); (focus omega); conv => whnf)
    | ((with_reducible refine Sub.mid rfl ?_ ?_ ?_); (focus (omega)); (focus (omega)); conv => whnf)
    | (refine Ld.at 0 rfl rfl ?_; conv => whnf)
    | ((with_reducible refine Cl.is (Try.memOk b _ c a _ _ _ hl (by omega) ⟨by omega, by omega⟩) ?_); conv => whnf)
    | ((with_reducible refine (?_ : Sm _ (convert _ _ _) _ _)); ((apply (Sm.b2s Try.tysOk)); ((focus rfl); (focus ((repeat (first | ((refine Rd.own 1 rfl ?_); (assumption)) | refine Rd.take ?_ _ | refine Rd.drop ?_ _ _ (by (simp only [List.length_set, List.length_append, List.length_take, List.length_drop, List.length_cons, List.length_nil] at *; omega)))); done))); (focus rfl); (focus rfl); (focus rfl); (focus rfl); (focus rfl); (focus rfl); conv => whnf)))
  all_goals (refine Is.ent ?_ ?_; (focus (refine FEnt.ent ?_; (repeat (first | exact FEnt.rfl | (apply Try.memShut) | rfl | assumption)); done)); (exact Is.rfl))
theorem Try.memTextNo (b : Nat) (xs : List UInt8) (at_ n : Int) (L : List HP) (hl : xs.length ≤ 1000000000) (ha : I64 at_) (hi : I64 n) (hn : 0 ≤ n) (h : ¬ thr xs.length at_ n) :
    Con Try.prog 16 [pV b, i64V at_, i64V n] (Try.memH b xs :: L) (Is (.tuple #[.string ByteArray.empty, i64V 6]) (Try.memH b xs :: L)) := by
  refine Try.memOpen fun a c hc had => ?_
  refine con_of Try.tysOk Try.func16 rfl rfl ?_
  conv => whnf
  repeat' (first
    | ((with_reducible refine Br.ndt ?_ ?_); (focus (first | assumption | omega)); conv => whnf)
    | ((with_reducible refine Cl.is (Try.memNo b _ c a _ _ _ hl ha hi hn h) ?_); conv => whnf))
  all_goals (refine Is.ent ?_ ?_; (focus (refine FEnt.ent ?_; (repeat (first | exact FEnt.rfl | (apply Try.memShut) | rfl | assumption)); done)); (exact Is.rfl))
theorem Try.memTextArg (b : Nat) (xs : List UInt8) (at_ n : Int) (L : List HP) (hl : xs.length ≤ 1000000000) (ha : I64 at_) (hi : I64 n) (hn : n < 0) :
    Con Try.prog 16 [pV b, i64V at_, i64V n] (Try.memH b xs :: L) (Is (.tuple #[.string ByteArray.empty, i64V 2]) (Try.memH b xs :: L)) := by
  have e : thrF xs.length at_ n = 2 := by unfold thrF; rw [if_pos hn]
  refine Try.memOpen fun a c hc had => ?_
  refine con_of Try.tysOk Try.func16 rfl rfl ?_
  conv => whnf
  repeat' (first
    | ((with_reducible refine Br.ndt ?_ ?_); (focus (first | assumption | omega)); conv => whnf)
    | ((with_reducible refine Cl.is (Con.eq (by rw [e]) (Try.memThere b _ c a _ _ _ hl ha hi)) ?_); conv => whnf))
  all_goals (refine Is.ent ?_ ?_; (focus (refine FEnt.ent ?_; (repeat (first | exact FEnt.rfl | (apply Try.memShut) | rfl | assumption)); done)); (exact Is.rfl))
theorem Try.memPut (b : Nat) (xs : List UInt8) (k : Nat) (at_ : Int) (s : ByteArray) (L : List HP) (hl : xs.length ≤ 1000000000) (ha : at_ = k) (h : k + s.size ≤ xs.length) :
    Con Try.prog 38 [pV b, i64V at_, .string s] (Try.memH b xs :: L) (Is (i64V 0) (Try.memH b (lay xs k s.data.toList) :: L)) := by
  subst ha
  have hp : s.data.toList.length = s.size := size_list s
  refine Try.memOpen fun a c hc had => ?_
  refine con_of Try.tysOk Try.func38 rfl rfl ?_
  conv => whnf
  repeat' (first
    | ((with_reducible refine Br.dt ?_ ?_); (focus (first | assumption | omega)); conv => whnf)
    | ((with_reducible refine Sub.suf rfl ?_ ?_ ?_); (focus (omega)); (focus (omega)); conv => whnf)
    | (refine Ld.at 0 rfl rfl ?_; conv => whnf)
    | ((with_reducible refine Cl.is (Try.memOk b _ c a _ _ _ hl (by omega) ⟨by omega, by omega⟩) ?_); conv => whnf)
    | ((with_reducible refine (?_ : Sm _ (Builtin.copy_ _ _ _) _ _)); ((apply (Sm.cpS Try.tysOk 1)); (focus rfl); (focus rfl); (focus rfl); (focus rfl); (focus rfl); (focus rfl); (focus (omega)); (focus (omega)); conv => whnf)))
  all_goals (refine Is.ent ?_ ?_; (focus (refine FEnt.ent ?_; (repeat (first | exact FEnt.rfl | (apply Try.memShut) | ((rw [lay_len (by (omega))]); (try assumption)))); done)); (exact Is.rfl))
theorem Try.memPutNo (b : Nat) (xs : List UInt8) (at_ : Int) (s : ByteArray) (L : List HP) (hl : xs.length ≤ 1000000000) (ha : I64 at_) (hs : s.size ≤ 9223372036854775807) (h : ¬ thr xs.length at_ s.size) :
    Con Try.prog 38 [pV b, i64V at_, .string s] (Try.memH b xs :: L) (Is (i64V 6) (Try.memH b xs :: L)) := by
  refine Try.memOpen fun a c hc had => ?_
  refine con_of Try.tysOk Try.func38 rfl rfl ?_
  conv => whnf
  repeat' (first
    | ((with_reducible refine Br.df ?_ ?_); (focus (first | assumption | omega)); conv => whnf)
    | ((with_reducible refine Cl.is (Try.memNo b _ c a _ _ _ hl ha ⟨by omega, by omega⟩ (by omega) h) ?_); conv => whnf))
  all_goals (refine Is.ent ?_ ?_; (focus (refine FEnt.ent ?_; (repeat (first | exact FEnt.rfl | (apply Try.memShut) | rfl | assumption)); done)); (exact Is.rfl))
/-- a new memory -/
abbrev zeros (n : Nat) : List UInt8 := List.replicate n 0
theorem Try.memNewO (n : Int) (L : List HP) (hn : I64 n) :
    Con Try.prog 8 [i64V n] L (Exs (fun x : Nat × Nat => pV x.1) (fun x => ptc x.1 71 [.slice (some ⟨x.2, 0, none⟩) (zeros (min (max n 0) 16384).toNat).length (zeros (min (max n 0) 16384).toNat).length] :: own u8E 5 (some ⟨x.2, 0, none⟩) (zeros (min (max n 0) 16384).toNat).length (zeros (min (max n 0) 16384).toNat) :: L) (fun _ => True)) := by
  refine con_of Try.tysOk Try.func8 rfl rfl ?_
  conv => whnf
  repeat' (first
    | ((with_reducible refine Nc.go' (fun b => ?_)); conv => whnf)
    | ((with_reducible apply (Mk.own u8E)); (focus rfl); (focus (omega)); (focus rfl); (intro _); conv => whnf))
  all_goals exact Exs.of (_, _) Ent.rfl trivial rfl
theorem Try.memGetNil (at_ : Int) (L : List HP) : Con Try.prog 39 [.pointer none, i64V at_] L (Is (.tuple #[i64V 0, i64V 1]) L) := by
  refine con_of Try.tysOk Try.func39 rfl rfl ?_
  conv => whnf
  repeat' (first
    | ((with_reducible refine Br.ndt ?_ ?_); (focus (first | assumption | omega)); conv => whnf)
    | ((with_reducible refine Cl.is (Try.memThereNil _ _ _) ?_); conv => whnf))
  all_goals (refine Is.ent ?_ ?_; (focus (exact Ent.rfl)); (exact Is.rfl))
theorem Try.memTextNil (at_ n : Int) (L : List HP) : Con Try.prog 16 [.pointer none, i64V at_, i64V n] L (Is (.tuple #[.string ByteArray.empty, i64V 1]) L) := by
  refine con_of Try.tysOk Try.func16 rfl rfl ?_
  conv => whnf
  repeat' (first
    | ((with_reducible refine Br.ndt ?_ ?_); (focus (first | assumption | omega)); conv => whnf)
    | ((with_reducible refine Cl.is (Try.memThereNil _ _ _) ?_); conv => whnf))
  all_goals (refine Is.ent ?_ ?_; (focus (exact Ent.rfl)); (exact Is.rfl))
theorem Try.memPutNil (at_ : Int) (s : ByteArray) (L : List HP) : Con Try.prog 38 [.pointer none, i64V at_, .string s] L (Is (i64V 1) L) := by
  refine con_of Try.tysOk Try.func38 rfl rfl ?_
  conv => whnf
  repeat' (first
    | ((with_reducible refine Br.df ?_ ?_); (focus (first | assumption | omega)); conv => whnf)
    | ((with_reducible refine Cl.is (Try.memThereNil _ _ _) ?_); conv => whnf))
  all_goals (refine Is.ent ?_ ?_; (focus (exact Ent.rfl)); (exact Is.rfl))
theorem Try.memNew (n : Int) (L : List HP) (hn : I64 n) :
    Con Try.prog 8 [i64V n] L (Exs pV (fun b => Try.memH b (zeros (min (max n 0) 16384).toNat) :: L) (fun _ => True)) := by
  refine con_of Try.tysOk Try.func8 rfl rfl ?_
  conv => whnf
  repeat' (first
    | ((with_reducible refine Nc.go' (fun b => ?_)); conv => whnf)
    | ((with_reducible apply (Mk.own u8E)); (focus rfl); (focus (omega)); (focus rfl); (intro _); conv => whnf))
  all_goals (refine Exs.of _ ?_ trivial rfl; (refine FEnt.ent ?_; (repeat (first | exact FEnt.rfl | (apply Try.memShut) | rfl | exact fun _ => rfl | ((simp only [List.length_set, List.length_append, List.length_take, List.length_drop, List.length_replicate, List.length_cons, List.length_nil]); omega))); done))
end Go.Proofs
