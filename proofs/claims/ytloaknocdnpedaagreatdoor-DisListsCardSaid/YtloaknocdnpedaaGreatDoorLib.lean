/- strings.Builder, strconv.Itoa, strings.Join, slices.Index of strings: contracts. -/
import Derived.Test.YtloaknocdnpedaaGreatDoorEngLib
import Derived.Test.YtloaknocdnpedaaGreatDoorLibLay
import Derived.Test.YtloaknocdnpedaaGreatDoorTys
set_option linter.all false
namespace Go.Proofs
open Go.Eng Go.Shelf Go.RowKit
set_option linter.unusedVariables false
set_option maxRecDepth 100000
set_option maxHeartbeats 2000000
abbrev p64 (b : Nat) : Value := .pointer (some ⟨b, 0, none⟩)
theorem Tryz.bldCheckNew (b : Nat) (v : Value) (L : List HP) : Con Tryz.prog 30 [p64 b] (ptc b 43 [.pointer none, v] :: L) (Is (.tuple #[]) (ptc b 43 [p64 b, v] :: L)) := by
  refine ⟨⟨_, Tryz.func30, by kernel_rfl, by kernel_rfl⟩, fun w s => ?_⟩
  have hb := s.pto 0 rfl
  refine (Any.Builder_copyCheck_fresh (ρ := Tryz.lays156_ren) { Tryz.lays156 with } Tryz.Builder_Extra_156.toX72 b w (cell_of hb rfl) (by simp [World.shape?, hb]; rfl) (by simp [World.frozen?, hb])).mono fun e w' => ?_
  rintro ⟨rfl, rfl⟩
  exact ⟨_, s.turn 0 rfl (setCell_at hb) (fun c hc => setCell_off hc) rfl, rfl, Ent.rfl⟩
theorem Tryz.bldCheckUsed (b : Nat) (v : Value) (L : List HP) : Con Tryz.prog 30 [p64 b] (ptc b 43 [p64 b, v] :: L) (Is (.tuple #[]) (ptc b 43 [p64 b, v] :: L)) := by
  refine ⟨⟨_, Tryz.func30, by kernel_rfl, by kernel_rfl⟩, fun w s => ?_⟩
  have hb := s.pto 0 rfl
  refine (Any.Builder_copyCheck_used (ρ := Tryz.lays156_ren) { Tryz.lays156 with } Tryz.Builder_Extra_156.toX72 b w (cell_of hb rfl)).mono fun e w' => ?_
  rintro ⟨rfl, rfl⟩
  exact ⟨_, s, rfl, Ent.rfl⟩
/-- a builder: what it holds -/
def Tryz.bldH (b : Nat) (xs : List UInt8) : HP := fun e h => ∃ (p : Value) (a : Option Addr) (c : Nat), (p = .pointer none ∨ p = p64 b) ∧ xs.length ≤ c ∧ Ad a xs.length ∧ Parts e [ptc b 43 [p, .slice a xs.length c], own u8E 5 a c xs] h
theorem Tryz.bldOpen {P : Program} {f : FuncId} {args : List Value} {b : Nat} {xs : List UInt8} {L : List HP} {R : Value → List HP → Prop} {X : List PanicEntry → List HP → Prop}
    (k : ∀ p a c, (p = .pointer none ∨ p = p64 b) → xs.length ≤ c → Ad a xs.length → Con P f args (ptc b 43 [p, .slice a xs.length c] :: own u8E 5 a c xs :: L) R X) : Con P f args (Tryz.bldH b xs :: L) R X := by
  refine ⟨(k (.pointer none) (some ⟨0, 0, none⟩) xs.length (.inl rfl) (Nat.le_refl _) (fun _ => rfl)).ent, fun w s => ?_⟩
  obtain ⟨c, ⟨h1, h2, rfl, ⟨p, a, c, hp', hc, had, hp⟩, hl⟩, ok⟩ := s
  exact (k p a c hp' hc had).run w ⟨_, (parts_append (L := [_, _])).2 ⟨h1, h2, rfl, hp, hl⟩, ok⟩
theorem Tryz.bldShut0 {b c n : Nat} {p : Value} {a : Option Addr} {xs : List UInt8} {L M : List HP} (hp : p = .pointer none ∨ p = p64 b)
    (h : FEnt L (ptc b 43 [p, .slice a n c] :: own u8E 5 a c xs :: M)) (hn : n = xs.length) (hc : xs.length ≤ c) (had : Ad a xs.length) : FEnt L (Tryz.bldH b xs :: M) := fun K w s => by
  subst hn
  have s1 := h K w s
  have e : K ++ ptc b 43 [p, .slice a xs.length c] :: own u8E 5 a c xs :: M = (K ++ [ptc b 43 [p, .slice a xs.length c], own u8E 5 a c xs]) ++ M := by simp
  rw [e] at s1
  have s2 : Sat w ([ptc b 43 [p, .slice a xs.length c], own u8E 5 a c xs] ++ (K ++ M)) := s1.perm (by rw [← List.append_assoc]; exact List.perm_append_comm.append_right M)
  have s3 : Sat w (Tryz.bldH b xs :: (K ++ M)) := s2.shut fun e c' hq => ⟨p, a, c, hp, hc, had, hq⟩
  exact s3.perm List.perm_middle.symm
theorem Tryz.bldShut {b c n : Nat} {a : Option Addr} {xs : List UInt8} {L M : List HP}
    (h : FEnt L (ptc b 43 [p64 b, .slice a n c] :: own u8E 5 a c xs :: M)) (hn : n = xs.length) (hc : xs.length ≤ c) (had : Ad a xs.length) : FEnt L (Tryz.bldH b xs :: M) := Tryz.bldShut0 (.inr rfl) h hn hc had
theorem Tryz.bldNew {b : Nat} {L : List HP} : Ent (ptc b 43 [.pointer none, .slice none 0 0] :: L) (Tryz.bldH b [] :: L) := (Tryz.bldShut0 (.inl rfl) (FEnt.at 0 rfl (FEnt.nil FEnt.rfl)) rfl (Nat.le_refl _) (fun h => (h rfl).elim)).ent
theorem Tryz.bldShutN {b : Nat} {L M : List HP} (h : FEnt L (ptc b 43 [.pointer none, .slice none 0 0] :: M)) : FEnt L (Tryz.bldH b [] :: M) := fun K w s => by
  have s1 := Ent.nil (E := u8E) (t := 5) w (h K w s)
  have s2 : Sat w (K ++ ptc b 43 [.pointer none, .slice none 0 0] :: own u8E 5 none 0 [] :: M) := s1.perm (by
    have e1 : K ++ ptc b 43 [.pointer none, .slice none 0 0] :: M = (K ++ [ptc b 43 [.pointer none, .slice none 0 0]]) ++ M := by simp
    have e2 : K ++ ptc b 43 [.pointer none, .slice none 0 0] :: own u8E 5 none 0 [] :: M = (K ++ [ptc b 43 [.pointer none, .slice none 0 0]]) ++ own u8E 5 none 0 [] :: M := by simp
    rw [e1, e2]
    exact List.perm_middle.symm)
  exact Tryz.bldShut0 (.inl rfl) FEnt.rfl rfl (Nat.le_refl _) (fun h => (h rfl).elim) K w s2
theorem Tryz.bldWrite (b : Nat) (xs : List UInt8) (s : ByteArray) (L : List HP) (hl : xs.length + s.size ≤ 140737488355328) :
    Con Tryz.prog 14 [p64 b, .string s] (Tryz.bldH b xs :: L) (Is (.tuple #[.int .i64 s.size, .nilIface]) (Tryz.bldH b (xs ++ s.data.toList) :: L)) := by
  refine Tryz.bldOpen fun p a c hp hc had => ?_
  rcases hp with rfl | rfl
  · refine con_of Tryz.tysOk Tryz.func14 rfl rfl ?_
    conv => whnf
    repeat' (first
      | ((with_reducible refine Nd.mk ?_ ?_); (focus (first | omega | rfl | assumption | (simp; done))); conv => whnf)
      | (refine Ld.at 0 rfl rfl ?_; conv => whnf)
      | (refine St.at 1 rfl (by first | exact Nat.le_of_ble_eq_true rfl | (simp; done)) rfl ?_; conv => whnf)
      | ((refine Cl.isAt 0 rfl (Tryz.bldCheckNew _ _ _) ?_); conv => whnf)
      | ((refine Sm.appStrAt Tryz.tysOk 1 rfl rfl rfl rfl rfl rfl rfl rfl rfl hl (fun a2 c2 hc2 had2 => ?_)); conv => whnf))
    all_goals (refine Is.ent ?_ ?_; (focus (refine FEnt.ent ?_; (repeat (first | exact FEnt.rfl | (refine FEnt.at 1 rfl ?_; (try simp only [List.eraseIdx_cons_zero, List.eraseIdx_cons_succ, List.eraseIdx_zero, List.tail_cons])) | (apply Tryz.bldShut) | rfl | assumption)); done)); (exact Is.rfl))
  · refine con_of Tryz.tysOk Tryz.func14 rfl rfl ?_
    conv => whnf
    repeat' (first
      | ((with_reducible refine Nd.mk ?_ ?_); (focus (first | omega | rfl | assumption | (simp; done))); conv => whnf)
      | (refine Ld.at 0 rfl rfl ?_; conv => whnf)
      | (refine St.at 1 rfl (by first | exact Nat.le_of_ble_eq_true rfl | (simp; done)) rfl ?_; conv => whnf)
      | ((refine Cl.isAt 0 rfl (Tryz.bldCheckUsed _ _ _) ?_); conv => whnf)
      | ((refine Sm.appStrAt Tryz.tysOk 1 rfl rfl rfl rfl rfl rfl rfl rfl rfl hl (fun a2 c2 hc2 had2 => ?_)); conv => whnf))
    all_goals (refine Is.ent ?_ ?_; (focus (refine FEnt.ent ?_; (repeat (first | exact FEnt.rfl | (refine FEnt.at 1 rfl ?_; (try simp only [List.eraseIdx_cons_zero, List.eraseIdx_cons_succ, List.eraseIdx_zero, List.tail_cons])) | (apply Tryz.bldShut) | rfl | assumption)); done)); (exact Is.rfl))
theorem Tryz.bldString (b : Nat) (xs : List UInt8) (L : List HP) : Con Tryz.prog 16 [p64 b] (Tryz.bldH b xs :: L) (Is (.string ⟨xs.toArray⟩) L) := by
  refine Tryz.bldOpen fun p a c hp hc had => ?_
  refine con_of Tryz.tysOk Tryz.func16 rfl rfl ?_
  conv => whnf
  repeat' (first
    | ((with_reducible refine Fk.mk ?_ ?_) <;> (conv => whnf))
    | (with_reducible exact True.intro)
    | (refine Ld.at 0 rfl rfl ?_; conv => whnf)
    | ((with_reducible refine Dr.tree (id := 1) Tryz.tysOk rfl (.one 0 0 (.one 1 0 (.one 2 0 (.one 5 0 (.one 6 0 (.one 7 0 (.one 3 1 (.fork 4 3 (.one 8 1 (.one 9 0 (.one 10 3 (.one 11 0 .nil)))) (.fork 8 1 (.one 9 0 (.one 4 3 (.one 10 3 (.one 11 0 .nil)))) .nil))))))))) ?_ _ ?_ (fun _ _ h => h)); (focus kernel_rfl); conv => whnf)
    | ((refine Sm.usd Tryz.tysOk 1 rfl rfl rfl rfl (fun q hq => ?_)); conv => whnf)
    | ((refine Sm.ustr Tryz.tysOk 1 rfl (by assumption) rfl rfl rfl (by kernel_rfl) ?_); conv => whnf))
  all_goals (refine Is.ent ?_ ?_; (focus (refine FEnt.ent ?_; (repeat (first | exact FEnt.rfl | refine FEnt.drop ?_)); done)); (exact Is.rfl))
/-! numbers as text -/
theorem Tryz.itoaSmall (n : Nat) (hn : n < 100) (L : List HP) : Con Tryz.prog 31 [.int .i64 n] L (Is (.string ⟨(Lib.decDigits n).toArray⟩) L) :=
  Con.lib ⟨_, Tryz.func31, by kernel_rfl, by kernel_rfl⟩ fun w s => (Tryz.strconv_Itoa_small n hn w).mono fun e w' h => ⟨h.1, by rw [h.2]; exact Below.refl _ _⟩
/-- the table of powers of ten stands -/
def Tryz.Gk (L : List HP) : Prop := ∀ w, Sat w L → Lib.TabIs Tryz.prog w "internal/strconv.uint64pow10" .u64 Lib.pow10Tab
theorem Tryz.gkCons {A : HP} {L : List HP} (h : Tryz.Gk L) : Tryz.Gk (A :: L) := fun w s => h w s.tail
theorem Tryz.gkApp {L M : List HP} (h : Tryz.Gk L) : Tryz.Gk (M ++ L) := fun w s => h w s.right
theorem Tryz.itoa (n : Int) (h0 : -9223372036854775808 ≤ n ∧ n ≤ 9223372036854775807) (L : List HP) (hG : Tryz.Gk L) : Con Tryz.prog 31 [.int .i64 n] L (Is (.string ⟨(Lib.itoa n).toArray⟩) L) :=
  Con.lib ⟨_, Tryz.func31, by kernel_rfl, by kernel_rfl⟩ fun w s => (Tryz.strconv_Itoa n h0.1 h0.2 w (hG w s)).mono fun e w' h => ⟨h.1, by obtain ⟨k, os, rfl⟩ := h.2; exact below_grow _ _ _⟩
theorem flat_str (xs : List ByteArray) : strE.flat xs = xs.map (Value.string ·) := by
  induction xs with
  | nil => rfl
  | cons x xs ih => rw [strE.flat_cons, ih]; rfl
theorem rd_str {L : List HP} {a : Option Addr} {xs : List ByteArray} (hr : Rd strE L a xs) {w : World} (s : Sat w L) (j : Nat) (x : ByteArray) (hj : xs[j]? = some x) : w.cell? ⟨blk a, off a + j, none⟩ = some (.string x) :=
  hr.at_ w s j _ (by rw [flat_str, List.getElem?_map, hj]; rfl)
theorem cell_lt {w : World} {b o : Nat} {v : Value} (h : w.cell? ⟨b, o, none⟩ = some v) : b < w.heap.size := by
  rcases Nat.lt_or_ge b w.heap.size with h' | h'
  · exact h'
  · simp [World.cell?, Array.getElem?_eq_none h'] at h
theorem Tryz.join (a : Option Addr) (c : Nat) (xs : List ByteArray) (sep : ByteArray) (L : List HP) (hr : Rd strE L a xs) (h0 : 0 < xs.length) (hc : xs.length ≤ c) (hN : xs.length ≤ 1000000) (hl : (Lib.join (xs.map (·.data.toList)) sep.data.toList).length ≤ 140737488355328) :
    Con Tryz.prog 55 [.slice a xs.length c, .string sep] L (Is (.string ⟨(Lib.join (xs.map (·.data.toList)) sep.data.toList).toArray⟩) L) := by
  have had := hr.ad (by omega)
  rw [had]
  refine Con.lib ⟨_, Tryz.func55, by kernel_rfl, by kernel_rfl⟩ fun w s => (Tryz.strings_Join (blk a) (off a) c xs sep w (fun j x hj => rd_str hr s j x hj) ?_ (by omega) hc hl).mono fun e w' h => h
  exact cell_lt (rd_str hr s 0 (xs[0]'h0) (by simp))
end Go.Proofs
