/- The assembler: what was made so far; values: contracts. -/
import Derived.Test.YtloaknocdnpedaaDoorAsmF
import Derived.Test.YtloaknocdnpedaaDoorAsmG
import Derived.Test.YtloaknocdnpedaaDoorCode
import Derived.Test.YtloaknocdnpedaaDoorEngMap
set_option linter.all false
namespace Go.Proofs
open Go.Eng Go.RowKit Go.MapKept
open Classical
set_option linter.unusedVariables false
set_option maxRecDepth 100000
set_option maxHeartbeats 4000000
theorem Bt.shr8i {x : Int} {j : IntKind} {K : Int → Prop} (k : K (x / 256)) : Bt (x.fdiv (2 ^ (min (Int.toNat 8) j.bits))) K := Bt.is (by
  have : (2 : Int) ^ (min (Int.toNat 8) j.bits) = 256 := by cases j <;> rfl
  rw [this, Int.fdiv_eq_ediv_of_nonneg x (by omega)]) k
theorem Tryd.bitsPut (n : Int) (L : List HP) : Con Tryd.prog 47 [.int .i64 n] L (Is (.string (bsL (p2 n))) L) := by
  unfold p2
  refine con_of Tryd.tysOk Tryd.func47 rfl rfl ?_
  conv => whnf
  repeat' (first
    | ((with_reducible refine Bt.shr8 ?_); conv => whnf)
    | ((with_reducible refine Ar.u8b ?_); conv => whnf)
    | ((with_reducible refine Nd.mk ?_ ?_); (focus (first | omega | rfl | assumption | (simp; done))); conv => whnf)
    | ((with_reducible refine Nc.go' (fun _ => ?_)); conv => whnf)
    | ((with_reducible refine (?_ : Sm _ (convert _ _ _) _ _)); ((apply (Sm.b2s Tryd.tysOk)); (rotate_left; (focus (exact Rd.ptc 0 rfl [_, _] rfl)); rotate_right; (focus rfl)); (focus rfl); (focus rfl); (focus rfl); (focus rfl); (focus rfl); (focus rfl); conv => whnf)))
  all_goals (refine Is.ent ?_ ?_; (focus (refine FEnt.ent ?_; (repeat (first | exact FEnt.rfl | refine FEnt.drop ?_)); done)); (exact Is.rfl))
theorem Tryd.codePut (c x n : Int) (L : List HP) (h : mayI c x n) : Con Tryd.prog 71 [insV c x n] L (Is (.tuple #[.string (bsL ([u8of c, u8of x] ++ p2 n)), .int .i64 0]) L) := by
  have hm := fun L => Con.dt h (Tryd.codeMay c x n L (by omega))
  have hb := fun L => Tryd.bitsPut n L
  obtain ⟨u, rfl⟩ : ∃ u : UInt8, c = u.toNat := ⟨u8of c, by rw [u8of_int]; omega⟩
  rw [u8of_toNat]
  have e : bsL ([u, u8of x] ++ p2 n) = bsL [u, u8of x] ++ bsL (p2 n) := str_ext (by rw [append_list])
  have h1 : (bsL [u, u8of x]).size = 2 := rfl
  have h2 : (bsL (p2 n)).size = 2 := rfl
  rw [e]
  refine con_of Tryd.tysOk Tryd.func71 rfl rfl ?_
  conv => whnf
  repeat' (first
    | ((with_reducible refine Br.nt ?_); conv => whnf)
    | ((with_reducible refine Ar.u8b ?_); conv => whnf)
    | ((with_reducible refine Nc.go' (fun _ => ?_)); conv => whnf)
    | (refine Ld.at 0 rfl rfl ?_; conv => whnf)
    | (refine LdN.at 0 rfl (by first | exact Nat.le_of_ble_eq_true rfl | (simp; done)) ?_; conv => whnf)
    | ((with_reducible refine Dr.by (id := 3) Tryd.tysOk rfl [(0, 0), (2, 0), (7, 0), (1, 1), (3, 1), (4, 0), (8, 1), (9, 1), (5, 2), (6, 1), (10, 0), (11, 0), (12, 0)] ?_ ?_); (focus kernel_rfl); conv => whnf)
    | ((with_reducible refine (?_ : SR _ (convert _ _ _) _ _)); ((apply (SR.b2s Tryd.tysOk)); (rotate_left; (focus (exact Rd.ptc 0 rfl [_, _] rfl)); rotate_right; (focus rfl)); (focus rfl); (focus rfl); (focus rfl); (focus rfl); (focus rfl); (focus rfl); conv => whnf))
    | ((with_reducible refine CD.is (fun M => hb _) ?_); conv => whnf)
    | ((with_reducible refine Cl.is (hm _) ?_); conv => whnf)
    | ((refine Nd.mk (by rw [h2]; exact Nat.le_of_ble_eq_true rfl) ?_); conv => whnf))
  all_goals first | (exfalso; omega) | (refine Is.ent ?_ ?_; (focus (refine FEnt.ent ?_; (repeat (first | exact FEnt.rfl | refine FEnt.drop ?_)); done)); (exact Is.rfl))
theorem Tryd.codeNamed (w : ByteArray) (L : List HP) : Con Tryd.prog 70 [.string w] L (Is (.tuple #[u8W (max (codeI w) 0), .bool (decide (0 ≤ codeI w))]) L) := by
  have hn := fun L => Tryd.codeNames L
  have hci := codeI_P w
  have hix := fun a c L h => Tryd.idxStr a c nameL w L h (by decide) (by decide)
  have ei : Lib.idxOfS nameL w = codeI w := rfl
  rw [ei] at hix
  have hl : nameL.length = 16 := rfl
  rw [hl] at hix
  have q1 : ((u8of (max (codeI w) 0)).toNat : Int) = max (codeI w) 0 := by rw [u8of_int]; omega
  generalize nameL = nl at *
  generalize codeI w = i at *
  have hix : ∀ a c L, Rd strE L a nl → Con Tryd.prog 86 [.slice a nl.length c, .string w] L (Is (.int .i64 i) L) := fun a c L h => by rw [hl]; exact hix a c L h
  refine con_of Tryd.tysOk Tryd.func70 rfl rfl ?_
  conv => whnf
  repeat' (first
    | ((with_reducible refine Ar.u8b ?_); conv => whnf)
    | (first | ((with_reducible refine Cl.new (hn _) (fun _ _ _ _ => ?_)); conv => whnf) | ((with_reducible refine Cl.is (hix _ _ _ (by ((repeat ((refine Rd.own 0 rfl ?_); (assumption))); done))) ?_); conv => whnf))
    | ((rw [q1]); conv => whnf))
  all_goals first | (exfalso; omega) | (refine Is.ent ?_ ?_; (focus (refine FEnt.ent ?_; (repeat (first | exact FEnt.rfl | refine FEnt.drop ?_)); done)); (exact Is.rfl))
/-! what was made so far -/
def useE : Enc (ByteArray × Int × Int) := ⟨3, fun y => [.string y.1, .int .i64 y.2.1, .int .i64 y.2.2], (⟨#[]⟩, 0, 0), fun _ => rfl, by omega, fun _ => rfl⟩
structure Aob where
  bs : List UInt8
  labs : List (ByteArray × Int)
  uses : List (ByteArray × Int × Int)
  line : Int
def labV (l : List (ByteArray × Int)) : List (Value × Value) := l.map fun p => (.string p.1, .int .i64 p.2)
abbrev Tryd.asmC (a : Option Addr) (n c mb : Nat) (a' : Option Addr) (n' c' : Nat) (l : Int) : List Value := [.slice a n c, .map (some mb), .slice a' n' c', .int .i64 l]
def Tryd.asmH (o : Nat) (X : Aob) : HP := fun e h => ∃ (a : Option Addr) (c mb : Nat) (a' : Option Addr) (c' : Nat), (X.bs.length ≤ c ∧ Ad a X.bs.length ∧ X.uses.length ≤ c' ∧ Ad a' X.uses.length) ∧
  Parts e [ptc o 63 (Tryd.asmC a X.bs.length c mb a' X.uses.length c' X.line), own u8E 5 a c X.bs, mapH mb .string (labV X.labs), own useE 92 a' c' X.uses] h
def Tryd.asmL (o : Nat) (line : Int) : HP := fun e h => ∃ X : Aob, X.line = line ∧ Tryd.asmH o X e h
theorem Tryd.asmForget {o : Nat} {X : Aob} {L : List HP} : Ent (Tryd.asmH o X :: L) (Tryd.asmL o X.line :: L) := fun w s => s.weak 0 rfl (fun h hh => ⟨X, rfl, hh⟩)
theorem Tryd.asmOpen {f : FuncId} {args : List Value} {o : Nat} {X : Aob} {L : List HP} {R : Value → List HP → Prop} {Y : List PanicEntry → List HP → Prop}
    (hent : ∃ fn, Tryd.prog.funcs[f]? = some fn ∧ (fn.name == "runtime.NumGoroutine") = false ∧ fn.body.isNone = false)
    (k : ∀ a c mb a' c', X.bs.length ≤ c → Ad a X.bs.length → X.uses.length ≤ c' → Ad a' X.uses.length → Con Tryd.prog f args (ptc o 63 (Tryd.asmC a X.bs.length c mb a' X.uses.length c' X.line) :: own u8E 5 a c X.bs :: mapH mb .string (labV X.labs) :: own useE 92 a' c' X.uses :: L) R Y) : Con Tryd.prog f args (Tryd.asmH o X :: L) R Y := by
  refine ⟨hent, fun w s => ?_⟩
  obtain ⟨c0, ⟨h1, h2, rfl, ⟨a, c, mb, a', c', ⟨v1, v2, v3, v4⟩, hp⟩, hl⟩, ok⟩ := s
  exact (k a c mb a' c' v1 v2 v3 v4).run w ⟨_, (parts_append (L := [_, _, _, _])).2 ⟨h1, h2, rfl, hp, hl⟩, ok⟩
theorem Tryd.asmShut {o n c mb n' c' : Nat} {a a' : Option Addr} {l : Int} {bs : List UInt8} {us : List (ByteArray × Int × Int)} {labs : List (ByteArray × Int)} {es : List (Value × Value)} {L M : List HP}
    (h : FEnt L (ptc o 63 [.slice a n c, .map (some mb), .slice a' n' c', .int .i64 l] :: own u8E 5 a c bs :: mapH mb .string es :: own useE 92 a' c' us :: M))
    (hn : n = bs.length) (hn' : n' = us.length) (he : es = labV labs) (hc : bs.length ≤ c) (had : Ad a bs.length) (hc' : us.length ≤ c') (had' : Ad a' us.length) : FEnt L (Tryd.asmH o ⟨bs, labs, us, l⟩ :: M) := fun K w s => by
  subst hn hn' he
  have s1 := h K w s
  have e : K ++ ptc o 63 [.slice a bs.length c, .map (some mb), .slice a' us.length c', .int .i64 l] :: own u8E 5 a c bs :: mapH mb .string (labV labs) :: own useE 92 a' c' us :: M = (K ++ [ptc o 63 [.slice a bs.length c, .map (some mb), .slice a' us.length c', .int .i64 l], own u8E 5 a c bs, mapH mb .string (labV labs), own useE 92 a' c' us]) ++ M := by simp
  rw [e] at s1
  have s2 : Sat w ([ptc o 63 [.slice a bs.length c, .map (some mb), .slice a' us.length c', .int .i64 l], own u8E 5 a c bs, mapH mb .string (labV labs), own useE 92 a' c' us] ++ (K ++ M)) := s1.perm (by rw [← List.append_assoc]; exact List.perm_append_comm.append_right M)
  have s3 : Sat w (Tryd.asmH o ⟨bs, labs, us, l⟩ :: (K ++ M)) := s2.shut fun e c0 hq => ⟨a, c, mb, a', c', ⟨hc, had, hc', had'⟩, hq⟩
  exact s3.perm List.perm_middle.symm
/-! values -/
theorem Tryd.asmValueN (o : Nat) (X : Aob) (w : ByteArray) (k : Int) (L : List HP) (hs : w.size ≤ 1000000000) (hl : Ltrs w) (hk : 0 ≤ k ∧ k ≤ 2) (hb : X.bs.length ≤ 1024) (hu : X.uses.length ≤ 100000) :
    Con Tryd.prog 69 [p64 o, .string w, .int .i64 k] (Tryd.asmH o X :: L) (Is (.int .i64 0) (Tryd.asmH o ⟨X.bs, X.labs, X.uses ++ [(w, (X.bs.length : Int) + k, X.line)], X.line⟩ :: L)) := by
  have hn := fun L => Con.dt hl (Tryd.asmIsName w L hs)
  refine Tryd.asmOpen ⟨_, Tryd.func69, by kernel_rfl, by kernel_rfl⟩ fun a c mb a' c' v1 v2 v3 v4 => ?_
  obtain ⟨bs, labs, us, line⟩ := X
  dsimp only at *
  refine con_of Tryd.tysOk Tryd.func69 rfl rfl ?_
  conv => whnf
  repeat' (first
    | ((with_reducible refine Br.tt ?_); conv => whnf)
    | ((with_reducible refine Ar.i64 ?_ ?_); (focus omega); conv => whnf)
    | ((with_reducible refine Nd.mk ?_ ?_); (focus (first | omega | rfl | assumption | (simp; done))); conv => whnf)
    | ((with_reducible refine Nc.go' (fun _ => ?_)); conv => whnf)
    | (refine Ld.at 0 rfl rfl ?_; conv => whnf)
    | (refine St.at 2 rfl (by first | exact Nat.le_of_ble_eq_true rfl | (simp; done)) rfl ?_; conv => whnf)
    | ((with_reducible refine Dr.by (id := 2) Tryd.tysOk rfl [(0, 0), (1, 0), (2, 0), (3, 0), (5, 0), (6, 0), (7, 0), (8, 0), (11, 0), (13, 0), (14, 0), (15, 0), (4, 1), (9, 1), (10, 0), (12, 0), (16, 1), (17, 0), (18, 2), (19, 3), (20, 0), (21, 0), (22, 3)] ?_ ?_); (focus kernel_rfl); conv => whnf)
    | ((with_reducible refine Cl.is (hn _) ?_); conv => whnf)
    | ((with_reducible refine (?_ : Sm _ (Builtin.append_ _ _ _) _ _)); (((with_reducible apply (Sm.appAt (E := useE) (et := 92) Tryd.tysOk 4)); (focus rfl)); (rotate_left; (focus (exact Rd.ptc 0 rfl [(_, _, _)] rfl)); rotate_right; (focus rfl)); (focus rfl); (focus rfl); (focus rfl); (focus rfl); (focus rfl); (focus rfl); (focus ((simp only [List.length_append, List.length_cons, List.length_nil]); omega)); (intro _ _ _ _); conv => whnf)))
  all_goals first | (exfalso; omega) | (refine Is.ent ?_ ?_; (focus (refine FEnt.ent ?_; (repeat (first | exact FEnt.rfl | (refine FEnt.at 0 rfl ?_; (try simp only [List.eraseIdx_cons_zero, List.eraseIdx_cons_succ, List.eraseIdx_zero, List.tail_cons])) | (refine FEnt.at 2 rfl ?_; (try simp only [List.eraseIdx_cons_zero, List.eraseIdx_cons_succ, List.eraseIdx_zero, List.tail_cons])) | (apply Tryd.asmShut) | refine FEnt.drop ?_ | rfl | assumption)); done)); (exact Is.rfl))
theorem Tryd.asmValueP (o : Nat) (X : Aob) (w : ByteArray) (k : Int) (L : List HP) (hs : w.size ≤ 1000000000) (hl : ¬ Ltrs w) (hp : 0 ≤ numA w 65535) :
    Con Tryd.prog 69 [p64 o, .string w, .int .i64 k] (Tryd.asmH o X :: L) (Is (.int .i64 (numA w 65535)) (Tryd.asmH o X :: L)) := by
  have hn := fun L => Con.df hl (Tryd.asmIsName w L hs)
  have hq := fun L => Tryd.asmPlain w 65535 L hs (by omega) hp
  refine con_of Tryd.tysOk Tryd.func69 rfl rfl ?_
  conv => whnf
  repeat' (first
    | ((with_reducible refine Br.ff ?_); conv => whnf)
    | (first | ((with_reducible refine Cl.is (hn _) ?_); conv => whnf) | ((with_reducible refine Cl.is (hq _) ?_); conv => whnf)))
  all_goals first | (exfalso; omega) | (refine Is.ent ?_ ?_; (focus (exact Ent.rfl)); (exact Is.rfl))
theorem Tryd.asmValueNo (o : Nat) (X : Aob) (w : ByteArray) (k : Int) (L : List HP) (hs : w.size ≤ 1000000000) (hl : ¬ Ltrs w) (hp : ¬ 0 ≤ numA w 65535) :
    Con Tryd.prog 69 [p64 o, .string w, .int .i64 k] (Tryd.asmH o X :: L) (fun _ _ => False) (Tryd.PanX 3 (Tryd.asmH o X :: L)) := by
  have hn := fun L => Con.df hl (Tryd.asmIsName w L hs)
  have hq := fun L => Tryd.asmPlainNo w 65535 L hs (by omega) hp
  refine con_of Tryd.tysOk Tryd.func69 rfl rfl ?_
  conv => whnf
  repeat' (first
    | ((with_reducible refine Br.ff ?_); conv => whnf)
    | (first | ((with_reducible refine Cl.is (hn _) ?_); conv => whnf) | ((with_reducible refine (?_ : Cl _ 68 _ _ _ _)); (refine Cl.pan (hq _) (fun ch L' h => ?_)); conv => whnf)))
  all_goals first | (exfalso; omega) | exact ⟨h.ch, fun w s => (by (exact Ent.rfl) : Ent _ (Tryd.asmH o X :: L)) w (h.l w s)⟩
end Go.Proofs
