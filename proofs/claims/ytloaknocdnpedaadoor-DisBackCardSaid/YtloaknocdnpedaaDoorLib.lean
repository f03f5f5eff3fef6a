/- strings.Builder, strconv.Itoa, strings.Join, slices.Index of strings: contracts. -/
import Derived.Test.YtloaknocdnpedaaDoorEngLib
import Derived.Test.YtloaknocdnpedaaDoorLibLay
import Derived.Test.YtloaknocdnpedaaDoorTys
set_option linter.all false
namespace Go.Proofs
open Go.Eng Go.Shelf Go.RowKit
set_option linter.unusedVariables false
set_option maxRecDepth 100000
set_option maxHeartbeats 2000000
abbrev p64 (b : Nat) : Value := .pointer (some ⟨b, 0, none⟩)
theorem Tryd.bldCheckNew (b : Nat) (v : Value) (L : List HP) : Con Tryd.prog 30 [p64 b] (ptc b 50 [.pointer none, v] :: L) (Is (.tuple #[]) (ptc b 50 [p64 b, v] :: L)) := by
  refine ⟨⟨_, Tryd.func30, by kernel_rfl, by kernel_rfl⟩, fun w s => ?_⟩
  have hb := s.pto 0 rfl
  refine (Any.Builder_copyCheck_fresh (ρ := Tryd.lays156_ren) { Tryd.lays156 with } Tryd.Builder_Extra_156.toX72 b w (cell_of hb rfl) (by simp [World.shape?, hb]; rfl) (by simp [World.frozen?, hb])).mono fun e w' => ?_
  rintro ⟨rfl, rfl⟩
  exact ⟨_, s.turn 0 rfl (setCell_at hb) (fun c hc => setCell_off hc) rfl, rfl, Ent.rfl⟩
theorem Tryd.bldCheckUsed (b : Nat) (v : Value) (L : List HP) : Con Tryd.prog 30 [p64 b] (ptc b 50 [p64 b, v] :: L) (Is (.tuple #[]) (ptc b 50 [p64 b, v] :: L)) := by
  refine ⟨⟨_, Tryd.func30, by kernel_rfl, by kernel_rfl⟩, fun w s => ?_⟩
  have hb := s.pto 0 rfl
  refine (Any.Builder_copyCheck_used (ρ := Tryd.lays156_ren) { Tryd.lays156 with } Tryd.Builder_Extra_156.toX72 b w (cell_of hb rfl)).mono fun e w' => ?_
  rintro ⟨rfl, rfl⟩
  exact ⟨_, s, rfl, Ent.rfl⟩
/-- a builder: what it holds -/
def Tryd.bldH (b : Nat) (xs : List UInt8) : HP := fun e h => ∃ (p : Value) (a : Option Addr) (c : Nat), (p = .pointer none ∨ p = p64 b) ∧ xs.length ≤ c ∧ Ad a xs.length ∧ Parts e [ptc b 50 [p, .slice a xs.length c], own u8E 5 a c xs] h
theorem Tryd.bldOpen {P : Program} {f : FuncId} {args : List Value} {b : Nat} {xs : List UInt8} {L : List HP} {R : Value → List HP → Prop} {X : List PanicEntry → List HP → Prop}
    (k : ∀ p a c, (p = .pointer none ∨ p = p64 b) → xs.length ≤ c → Ad a xs.length → Con P f args (ptc b 50 [p, .slice a xs.length c] :: own u8E 5 a c xs :: L) R X) : Con P f args (Tryd.bldH b xs :: L) R X := by
  refine ⟨(k (.pointer none) (some ⟨0, 0, none⟩) xs.length (.inl rfl) (Nat.le_refl _) (fun _ => rfl)).ent, fun w s => ?_⟩
  obtain ⟨c, ⟨h1, h2, rfl, ⟨p, a, c, hp', hc, had, hp⟩, hl⟩, ok⟩ := s
  exact (k p a c hp' hc had).run w ⟨_, (parts_append (L := [_, _])).2 ⟨h1, h2, rfl, hp, hl⟩, ok⟩
theorem Tryd.bldShut0 {b c n : Nat} {p : Value} {a : Option Addr} {xs : List UInt8} {L M : List HP} (hp : p = .pointer none ∨ p = p64 b)
    (h : FEnt L (ptc b 50 [p, .slice a n c] :: own u8E 5 a c xs :: M)) (hn : n = xs.length) (hc : xs.length ≤ c) (had : Ad a xs.length) : FEnt L (Tryd.bldH b xs :: M) := fun K w s => by
  subst hn
  have s1 := h K w s
  have e : K ++ ptc b 50 [p, .slice a xs.length c] :: own u8E 5 a c xs :: M = (K ++ [ptc b 50 [p, .slice a xs.length c], own u8E 5 a c xs]) ++ M := by simp
  rw [e] at s1
  have s2 : Sat w ([ptc b 50 [p, .slice a xs.length c], own u8E 5 a c xs] ++ (K ++ M)) := s1.perm (by rw [← List.append_assoc]; exact List.perm_append_comm.append_right M)
  have s3 : Sat w (Tryd.bldH b xs :: (K ++ M)) := s2.shut fun e c' hq => ⟨p, a, c, hp, hc, had, hq⟩
  exact s3.perm List.perm_middle.symm
theorem Tryd.bldShut {b c n : Nat} {a : Option Addr} {xs : List UInt8} {L M : List HP}
    (h : FEnt L (ptc b 50 [p64 b, .slice a n c] :: own u8E 5 a c xs :: M)) (hn : n = xs.length) (hc : xs.length ≤ c) (had : Ad a xs.length) : FEnt L (Tryd.bldH b xs :: M) := Tryd.bldShut0 (.inr rfl) h hn hc had
theorem Tryd.bldNew {b : Nat} {L : List HP} : Ent (ptc b 50 [.pointer none, .slice none 0 0] :: L) (Tryd.bldH b [] :: L) := (Tryd.bldShut0 (.inl rfl) (FEnt.at 0 rfl (FEnt.nil FEnt.rfl)) rfl (Nat.le_refl _) (fun h => (h rfl).elim)).ent
theorem Tryd.bldShutN {b : Nat} {L M : List HP} (h : FEnt L (ptc b 50 [.pointer none, .slice none 0 0] :: M)) : FEnt L (Tryd.bldH b [] :: M) := fun K w s => by
  have s1 := Ent.nil (E := u8E) (t := 5) w (h K w s)
  have s2 : Sat w (K ++ ptc b 50 [.pointer none, .slice none 0 0] :: own u8E 5 none 0 [] :: M) := s1.perm (by
    have e1 : K ++ ptc b 50 [.pointer none, .slice none 0 0] :: M = (K ++ [ptc b 50 [.pointer none, .slice none 0 0]]) ++ M := by simp
    have e2 : K ++ ptc b 50 [.pointer none, .slice none 0 0] :: own u8E 5 none 0 [] :: M = (K ++ [ptc b 50 [.pointer none, .slice none 0 0]]) ++ own u8E 5 none 0 [] :: M := by simp
    rw [e1, e2]
    exact List.perm_middle.symm)
  exact Tryd.bldShut0 (.inl rfl) FEnt.rfl rfl (Nat.le_refl _) (fun h => (h rfl).elim) K w s2
theorem Tryd.bldWrite (b : Nat) (xs : List UInt8) (s : ByteArray) (L : List HP) (hl : xs.length + s.size ≤ 140737488355328) :
    Con Tryd.prog 19 [p64 b, .string s] (Tryd.bldH b xs :: L) (Is (.tuple #[.int .i64 s.size, .nilIface]) (Tryd.bldH b (xs ++ s.data.toList) :: L)) := by
  refine Tryd.bldOpen fun p a c hp hc had => ?_
  rcases hp with rfl | rfl
  · refine con_of Tryd.tysOk Tryd.func19 rfl rfl ?_
    conv => whnf
    repeat' (first
      | ((with_reducible refine Nd.mk ?_ ?_); (focus (first | omega | rfl | assumption | (simp; done))); conv => whnf)
      | (refine Ld.at 0 rfl rfl ?_; conv => whnf)
      | (refine St.at 1 rfl (by first | exact Nat.le_of_ble_eq_true rfl | (simp; done)) rfl ?_; conv => whnf)
      | ((refine Cl.isAt 0 rfl (Tryd.bldCheckNew _ _ _) ?_); conv => whnf)
      | ((refine Sm.appStrAt Tryd.tysOk 1 rfl rfl rfl rfl rfl rfl rfl rfl rfl hl (fun a2 c2 hc2 had2 => ?_)); conv => whnf))
    all_goals (refine Is.ent ?_ ?_; (focus (refine FEnt.ent ?_; (repeat (first | exact FEnt.rfl | (refine FEnt.at 1 rfl ?_; (try simp only [List.eraseIdx_cons_zero, List.eraseIdx_cons_succ, List.eraseIdx_zero, List.tail_cons])) | (apply Tryd.bldShut) | rfl | assumption)); done)); (exact Is.rfl))
  · refine con_of Tryd.tysOk Tryd.func19 rfl rfl ?_
    conv => whnf
    repeat' (first
      | ((with_reducible refine Nd.mk ?_ ?_); (focus (first | omega | rfl | assumption | (simp; done))); conv => whnf)
      | (refine Ld.at 0 rfl rfl ?_; conv => whnf)
      | (refine St.at 1 rfl (by first | exact Nat.le_of_ble_eq_true rfl | (simp; done)) rfl ?_; conv => whnf)
      | ((refine Cl.isAt 0 rfl (Tryd.bldCheckUsed _ _ _) ?_); conv => whnf)
      | ((refine Sm.appStrAt Tryd.tysOk 1 rfl rfl rfl rfl rfl rfl rfl rfl rfl hl (fun a2 c2 hc2 had2 => ?_)); conv => whnf))
    all_goals (refine Is.ent ?_ ?_; (focus (refine FEnt.ent ?_; (repeat (first | exact FEnt.rfl | (refine FEnt.at 1 rfl ?_; (try simp only [List.eraseIdx_cons_zero, List.eraseIdx_cons_succ, List.eraseIdx_zero, List.tail_cons])) | (apply Tryd.bldShut) | rfl | assumption)); done)); (exact Is.rfl))
theorem Tryd.bldString (b : Nat) (xs : List UInt8) (L : List HP) : Con Tryd.prog 21 [p64 b] (Tryd.bldH b xs :: L) (Is (.string ⟨xs.toArray⟩) L) := by
  refine Tryd.bldOpen fun p a c hp hc had => ?_
  refine con_of Tryd.tysOk Tryd.func21 rfl rfl ?_
  conv => whnf
  repeat' (first
    | ((with_reducible refine Fk.mk ?_ ?_) <;> (conv => whnf))
    | (with_reducible exact True.intro)
    | (refine Ld.at 0 rfl rfl ?_; conv => whnf)
    | ((with_reducible refine Dr.tree (id := 1) Tryd.tysOk rfl (.one 0 0 (.one 1 0 (.one 2 0 (.one 5 0 (.one 6 0 (.one 7 0 (.one 3 1 (.fork 4 3 (.one 8 1 (.one 9 0 (.one 10 3 (.one 11 0 .nil)))) (.fork 8 1 (.one 9 0 (.one 4 3 (.one 10 3 (.one 11 0 .nil)))) .nil))))))))) ?_ _ ?_ (fun _ _ h => h)); (focus kernel_rfl); conv => whnf)
    | ((refine Sm.usd Tryd.tysOk 1 rfl rfl rfl rfl (fun q hq => ?_)); conv => whnf)
    | ((refine Sm.ustr Tryd.tysOk 1 rfl (by assumption) rfl rfl rfl (by kernel_rfl) ?_); conv => whnf))
  all_goals (refine Is.ent ?_ ?_; (focus (refine FEnt.ent ?_; (repeat (first | exact FEnt.rfl | refine FEnt.drop ?_)); done)); (exact Is.rfl))
/-! numbers as text -/
theorem Tryd.itoaSmall (n : Nat) (hn : n < 100) (L : List HP) : Con Tryd.prog 31 [.int .i64 n] L (Is (.string ⟨(Lib.decDigits n).toArray⟩) L) :=
  Con.lib ⟨_, Tryd.func31, by kernel_rfl, by kernel_rfl⟩ fun w s => (Tryd.strconv_Itoa_small n hn w).mono fun e w' h => ⟨h.1, by rw [h.2]; exact Below.refl _ _⟩
/-- the table of powers of ten stands -/
def Tryd.Gk (L : List HP) : Prop := ∀ w, Sat w L → Lib.TabIs Tryd.prog w "internal/strconv.uint64pow10" .u64 Lib.pow10Tab
theorem Tryd.gkCons {A : HP} {L : List HP} (h : Tryd.Gk L) : Tryd.Gk (A :: L) := fun w s => h w s.tail
theorem Tryd.gkApp {L M : List HP} (h : Tryd.Gk L) : Tryd.Gk (M ++ L) := fun w s => h w s.right
theorem Tryd.itoa (n : Int) (h0 : -9223372036854775808 ≤ n ∧ n ≤ 9223372036854775807) (L : List HP) (hG : Tryd.Gk L) : Con Tryd.prog 31 [.int .i64 n] L (Is (.string ⟨(Lib.itoa n).toArray⟩) L) :=
  Con.lib ⟨_, Tryd.func31, by kernel_rfl, by kernel_rfl⟩ fun w s => (Tryd.strconv_Itoa n h0.1 h0.2 w (hG w s)).mono fun e w' h => ⟨h.1, by obtain ⟨k, os, rfl⟩ := h.2; exact below_grow _ _ _⟩
theorem flat_str (xs : List ByteArray) : strE.flat xs = xs.map (Value.string ·) := by
  induction xs with
  | nil => rfl
  | cons x xs ih => rw [strE.flat_cons, ih]; rfl
theorem rd_str {L : List HP} {a : Option Addr} {xs : List ByteArray} (hr : Rd strE L a xs) {w : World} (s : Sat w L) (j : Nat) (x : ByteArray) (hj : xs[j]? = some x) : w.cell? ⟨blk a, off a + j, none⟩ = some (.string x) :=
  hr.at_ w s j _ (by rw [flat_str, List.getElem?_map, hj]; rfl)
theorem cell_lt {w : World} {b o : Nat} {v : Value} (h : w.cell? ⟨b, o, none⟩ = some v) : b < w.heap.size := by
  rcases Nat.lt_or_ge b w.heap.size with h' | h'
  · exact h'
  · simp [World.cell?, Array.getElem?_eq_none h'] at h
theorem Tryd.join (a : Option Addr) (c : Nat) (xs : List ByteArray) (sep : ByteArray) (L : List HP) (hr : Rd strE L a xs) (h0 : 0 < xs.length) (hc : xs.length ≤ c) (hN : xs.length ≤ 1000000) (hl : (Lib.join (xs.map (·.data.toList)) sep.data.toList).length ≤ 140737488355328) :
    Con Tryd.prog 41 [.slice a xs.length c, .string sep] L (Is (.string ⟨(Lib.join (xs.map (·.data.toList)) sep.data.toList).toArray⟩) L) := by
  have had := hr.ad (by omega)
  rw [had]
  refine Con.lib ⟨_, Tryd.func41, by kernel_rfl, by kernel_rfl⟩ fun w s => (Tryd.strings_Join (blk a) (off a) c xs sep w (fun j x hj => rd_str hr s j x hj) ?_ (by omega) hc hl).mono fun e w' h => h
  exact cell_lt (rd_str hr s 0 (xs[0]'h0) (by simp))
theorem Tryd.idxStr (a : Option Addr) (c : Nat) (xs : List ByteArray) (x : ByteArray) (L : List HP) (hr : Rd strE L a xs) (h0 : 0 < xs.length) (hN : xs.length ≤ 1000000) :
    Con Tryd.prog 86 [.slice a xs.length c, .string x] L (Is (.int .i64 (Lib.idxOfS xs x)) L) := by
  have had := hr.ad (by omega)
  rw [had]
  refine Con.lib ⟨_, Tryd.func86, by kernel_rfl, by kernel_rfl⟩ fun w s => (Tryd.slices_Index_string (blk a) (off a) xs.length c xs x w (Nat.le_refl _) (by omega) (fun j hj => rd_str hr s j _ (by rw [List.getElem?_eq_getElem hj]; simp [List.getD, hj]))).mono fun e w' h => ⟨by rw [h.1, List.take_length], by rw [h.2]; exact Below.refl _ _⟩
end Go.Proofs
