/- Instructions as bytes: the reader, and what an instruction may be: contracts. -/
import Derived.Test.YtdjpcfaidgofoaaGreatEngMap
import Derived.Test.YtdjpcfaidgofoaaGreatEngReg
import Derived.Test.YtdjpcfaidgofoaaGreatTys
set_option linter.all false
namespace Go.Eng
open Go
set_option linter.unusedVariables false
variable {P : Program} {τ : Tys} {D : List Deferred}
/-- n rounds at most -/
def Unr (P : Program) (c : Code) (Q : Exit → Act → World → Prop) : Nat → Act → World → Prop
  | 0, _, _ => False
  | n + 1, a, w => c.wp P (Exit.then (Unr P c Q n) Q) a w
theorem wp_unr {c : Code} {Q : Exit → Act → World → Prop} {n : Nat} {a : Act} {w : World} (h : Unr P c Q n a w) : (Code.loop c).wp P Q a w :=
  wp_loop_m (fun n a w => Unr P c Q n a w) h fun n a w hJ => by
    cases n with
    | zero => exact hJ.elim
    | succ n =>
      refine wp_mono hJ fun e a' w' hq => ?_
      cases e with
      | normal => exact ⟨n, Nat.lt_succ_self n, hq⟩
      | _ => exact hq
structure LpU (P : Program) (D : List Deferred) (c : Code) (Q : Post) (n : Nat) (l : Env) (L : List HP) : Prop where
  go : ∀ w, Sat w L → Unr P c (lift D Q) n ⟨l.toArray, D⟩ w
theorem LpU.step (hτ : TysOk P τ) {c : Code} {Q : Post} {n : Nat} {l : Env} {L : List HP} (h : wpC P τ D c (thenP (fun l' L' => LpU P D c Q n l' L') Q) l L) : LpU P D c Q (n + 1) l L :=
  ⟨fun w s => wp_mono (wpC_sound hτ c _ _ _ h w s) fun e a' w' hq => by
    have := lift_then hq
    cases e with
    | normal =>
      obtain ⟨l2, L2, rfl, s2, hn⟩ := this
      exact hn.go w' s2
    | _ => exact this⟩
/-- a loop, round by round -/
theorem Lp.unr (n : Nat) {c : Code} {ws : List Nat} {Q : Post} {l : Env} {L : List HP} (h : LpU P D c Q n l L) : Lp P D c ws Q l L := ⟨fun w s => wp_unr (h.go w s)⟩
/-! several labels -/
def Exit.jumps (J : Nat → Act → World → Prop) (Q : Exit → Act → World → Prop) : Exit → Act → World → Prop
  | .goto l, a, w => J l a w
  | e, a, w => Q e a w
theorem wp_scope_many {c : Code} {a : Act} {w : World} {Q : Exit → Act → World → Prop} (J : Nat → Nat → Act → World → Prop)
    (first : c.wp P (Exit.jumps (fun l a w => ∃ n, J l n a w) Q) a w)
    (pass : ∀ l n a w, J l n a w → ∃ rest, findLabel c l = some rest ∧ rest.wp P (Exit.jumps (fun l' a' w' => ∃ m, m < n ∧ J l' m a' w') Q) a w) : (Code.scope c).wp P Q a w := by
  intro b k cs
  have key : ∀ n l a w rest, J l n a w → findLabel c l = some rest → ∃ e a' w', Q e a' w' ∧ Arrives P (lone (b.at a (.code rest :: .inScope c :: k)) cs w) b k cs e a' w' := by
    intro n
    induction n using Nat.strongRecOn with
    | _ n ih =>
      intro l a w rest hJ hf
      obtain ⟨rest', hf', hp⟩ := pass l n a w hJ
      obtain rfl : rest' = rest := Option.some.inj (hf'.symm.trans hf)
      obtain ⟨e, a₁, w₁, hq, harr⟩ := hp b (.inScope c :: k) cs
      cases e with
      | normal => exact ⟨.normal, a₁, w₁, hq, Steps.trans harr (.one step_inScope)⟩
      | exit id => exact ⟨.exit id, a₁, w₁, hq, fun k' hk => harr k' (by simp [exitTo, hk])⟩
      | goto l' =>
        obtain ⟨m, hlt, hJ'⟩ := hq
        obtain ⟨rest2, hf2, _⟩ := pass l' m a₁ w₁ hJ'
        have hg : gotoIn l' (.inScope c :: k) = some (.code rest2 :: .inScope c :: k) := by simp [gotoIn, hf2]
        obtain ⟨e₂, a₂, w₂, hq₂, harr₂⟩ := ih m hlt l' a₁ w₁ rest2 hJ' hf2
        exact ⟨e₂, a₂, w₂, hq₂, .of_steps (harr _ hg) harr₂⟩
      | ret => exact ⟨_, a₁, w₁, hq, harr⟩
      | panic ch => exact ⟨_, a₁, w₁, hq, harr⟩
      | outgrown => exact ⟨_, a₁, w₁, hq, harr⟩
  obtain ⟨e, a₁, w₁, hq, harr⟩ := first b (.inScope c :: k) cs
  cases e with
  | normal => exact ⟨.normal, a₁, w₁, hq, .head step_scope (Steps.trans harr (.one step_inScope))⟩
  | exit id => exact ⟨.exit id, a₁, w₁, hq, fun k' hk => .head step_scope (harr k' (by simp [exitTo, hk]))⟩
  | goto l' =>
    obtain ⟨m, hJ'⟩ := hq
    obtain ⟨rest2, hf2, _⟩ := pass l' m a₁ w₁ hJ'
    have hg : gotoIn l' (.inScope c :: k) = some (.code rest2 :: .inScope c :: k) := by simp [gotoIn, hf2]
    obtain ⟨e₂, a₂, w₂, hq₂, harr₂⟩ := key m l' a₁ w₁ rest2 hJ' hf2
    exact ⟨e₂, a₂, w₂, hq₂, .of_steps (.head step_scope (harr _ hg)) harr₂⟩
  | ret => exact ⟨_, a₁, w₁, hq, .of_steps (.one step_scope) harr⟩
  | panic ch => exact ⟨_, a₁, w₁, hq, .of_steps (.one step_scope) harr⟩
  | outgrown => exact ⟨_, a₁, w₁, hq, .of_steps (.one step_scope) harr⟩
def jumpsP (N : Nat → Env → List HP → Prop) (Q : Post) : Post := fun e l L =>
  match e with
  | .goto i => N i l L
  | .normal => Q .normal l L
  | .exit i => Q (.exit i) l L
  | .ret => Q .ret l L
  | .panic ch => Q (.panic ch) l L
  | .outgrown => Q .outgrown l L
theorem lift_jumps {N : Nat → Env → List HP → Prop} {Q : Post} {e : Exit} {a : Act} {w : World} (h : lift D (jumpsP N Q) e a w) :
    Exit.jumps (fun i a w => ∃ l L, a = ⟨l.toArray, D⟩ ∧ Sat w L ∧ N i l L) (lift D Q) e a w := by
  obtain ⟨l, L, rfl, s, hq⟩ := h
  cases e with
  | goto i => exact ⟨l, L, rfl, s, hq⟩
  | _ => exact ⟨l, L, rfl, s, hq⟩
/-- a label is reached: what stands in its live slots, and in memory -/
structure Jmp {A : Type} (vs : A → List Value) (Ls : A → List HP) (I : Nat → A → Prop) (l0 : Env) (live dead : List Nat) (lab : Nat) (l' : Env) (L' : List HP) : Prop where
  go : ∃ a, l' = puts (puts l0 live (vs a)) dead (gets l' dead) ∧ Ent L' (Ls a) ∧ I lab a
structure Agn {A : Type} (vs : A → List Value) (Ls : A → List HP) (I : Nat → A → Prop) (μ : Nat → A → Nat) (m : Nat) (l0 : Env) (live dead : List Nat) (lab : Nat) (l' : Env) (L' : List HP) : Prop where
  go : ∃ a, l' = puts (puts l0 live (vs a)) dead (gets l' dead) ∧ Ent L' (Ls a) ∧ I lab a ∧ μ lab a < m
/-- A SCOPE WITH LABELS THAT ARE JUMPED TO -/
theorem Sc.many (hτ : TysOk P τ) {c : Code} {ws : List Nat} {Q : Post} {l : Env} {L : List HP} {A : Type} (live : List Nat) (vs : A → List Value) (Ls : A → List HP) (I : Nat → A → Prop) (μ : Nat → A → Nat)
    (first : wpC P τ D c (jumpsP (fun lab l' L' => Jmp vs Ls I l live (minusN ws live) lab l' L') Q) l L)
    (pass : ∀ lab a, I lab a → ∃ rest, findLabel c lab = some rest ∧ allN (minusN ws live).length fun ds => putsK l live (vs a) fun l1 => putsK l1 (minusN ws live) ds fun l2 =>
      wpC P τ D rest (jumpsP (fun lab' l' L' => Agn vs Ls I μ (μ lab a) l live (minusN ws live) lab' l' L') Q) l2 (Ls a)) : Sc P D c ws Q l L := by
  refine ⟨fun w s => ?_⟩
  refine wp_scope_many (fun lab n a w => ∃ (x : A) (l' : Env), a = ⟨l'.toArray, D⟩ ∧ l' = puts (puts l live (vs x)) (minusN ws live) (gets l' (minusN ws live)) ∧ Sat w (Ls x) ∧ I lab x ∧ μ lab x = n) ?_ ?_
  · refine wp_mono (wpC_sound hτ c _ _ _ first w s) fun e a' w' hq => ?_
    have := lift_jumps hq
    cases e with
    | goto i =>
      obtain ⟨l2, L2, rfl, s2, ⟨a2, h1, h2, h3⟩⟩ := this
      exact ⟨_, a2, l2, rfl, h1, h2 _ s2, h3, rfl⟩
    | _ => exact this
  · rintro lab n a w ⟨x, l', rfl, hl, s, hI, rfl⟩
    obtain ⟨rest, hf, hp⟩ := pass lab x hI
    refine ⟨rest, hf, ?_⟩
    have h := allN_spec hp (gets l' (minusN ws live)) (gets_len _ _)
    rw [putsK_eq, putsK_eq, ← hl] at h
    refine wp_mono (wpC_sound hτ rest _ _ _ h w s) fun e a' w' hq => ?_
    have := lift_jumps hq
    cases e with
    | goto i =>
      obtain ⟨l2, L2, rfl, s2, ⟨a2, h1, h2, h3, h4⟩⟩ := this
      exact ⟨_, h4, a2, l2, rfl, h1, h2 _ s2, h3, rfl⟩
    | _ => exact this
end Go.Eng
set_option linter.all false
namespace Go.Proofs
open Go.Eng
set_option linter.unusedVariables false
set_option maxRecDepth 100000
/-- int's bounds -/
abbrev I64 (n : Int) : Prop := -9223372036854775808 ≤ n ∧ n ≤ 9223372036854775807
theorem or_low (x y : Int) (hx : 0 ≤ x ∧ x ≤ 255) (hy : 0 ≤ y ∧ y ≤ 255) : bits .or .i64 x (y * 256) = x + 256 * y := by
  show IntKind.i64.wrap ((BitVec.ofInt 64 x ||| BitVec.ofInt 64 (y * 256)).toNat : Int) = _
  obtain ⟨a, rfl⟩ := Int.eq_ofNat_of_zero_le hx.1
  obtain ⟨b, rfl⟩ := Int.eq_ofNat_of_zero_le hy.1
  have e : (BitVec.ofInt 64 (a : Int) ||| BitVec.ofInt 64 ((b : Int) * 256)).toNat = a + 256 * b := by
    rw [BitVec.toNat_or, BitVec.toNat_ofInt, BitVec.toNat_ofInt]
    have e1 : ((a : Int) % (2 ^ 64 : Nat)).toNat = a := by omega
    have e2 : ((b : Int) * 256 % (2 ^ 64 : Nat)).toNat = 2 ^ 8 * b := by omega
    rw [e1, e2, Nat.or_comm, ← Nat.two_pow_add_eq_or_of_lt (by omega : a < 2 ^ 8)]
    omega
  rw [e, IntKind.wrap_i64]
  omega
theorem Tryz.two (x y : Int) (h : I64 x) (k : I64 y) (L : List HP) :
    Con Tryz.prog 158 [.int .i64 x, .int .i64 y] L (Is (.int .i64 (x % 256 + 256 * (y % 256))) L) := by
  refine con_of Tryz.tysOk Tryz.func158 rfl rfl ?_
  conv => whnf
  repeat' (first
    | (first | ((with_reducible refine Bt.low8 ?_ ?_); (focus (first | assumption | omega)); conv => whnf) | (refine Bt.is (or_low _ _ (by omega) (by omega)) ?_; conv => whnf))
    | ((with_reducible refine Ar.shl8 ?_ ?_); (focus omega); conv => whnf)
    | ((with_reducible refine Nd.mk ?_ ?_); (focus (first | omega | rfl | assumption | (simp; done))); conv => whnf))
  exact Is.rfl
theorem u8I (x : UInt8) : I64 (x.toNat : Int) := ⟨by omega, by have := u8_lt x; omega⟩
theorem Tryz.twoB (x y : UInt8) (L : List HP) : Con Tryz.prog 158 [.int .i64 (x.toNat : Int), .int .i64 (y.toNat : Int)] L (Is (.int .i64 ((x.toNat : Int) + 256 * (y.toNat : Int))) L) := by
  have h := Tryz.two x.toNat y.toNat (u8I x) (u8I y) L
  have h1 := u8_lt x
  have h2 := u8_lt y
  rwa [Int.emod_eq_of_lt (by omega) (by omega), Int.emod_eq_of_lt (by omega) (by omega)] at h
/-- a number's two bytes -/
def putB (n : Int) : List UInt8 := [u8of n, u8of (n / 256)]
theorem Tryz.put (n : Int) (h : I64 n) (L : List HP) : Con Tryz.prog 264 [.int .i64 n] L (Is (.string ⟨(putB n).toArray⟩) L) := by
  refine con_of Tryz.tysOk Tryz.func264 rfl rfl ?_
  conv => whnf
  repeat' (first
    | ((with_reducible refine Bt.shr8 ?_); conv => whnf)
    | ((with_reducible refine Ar.u8b ?_); conv => whnf)
    | ((with_reducible refine Nd.mk ?_ ?_); (focus (first | omega | rfl | assumption | (simp; done))); conv => whnf)
    | ((with_reducible refine Nc.go' (fun _ => ?_)); conv => whnf)
    | ((with_reducible refine (?_ : Sm _ (convert _ _ _) _ _)); ((apply (Sm.b2s Tryz.tysOk)); (rotate_left; (focus (exact Rd.ptc 0 rfl [_, _] rfl)); rotate_right; (focus rfl)); (focus rfl); (focus rfl); (focus rfl); (focus rfl); (focus rfl); (focus rfl); conv => whnf)))
  all_goals (refine Is.ent ?_ ?_; (focus (refine FEnt.ent ?_; (repeat (first | exact FEnt.rfl | refine FEnt.drop ?_)); done)); (exact Is.rfl))
end Go.Proofs
set_option linter.all false
namespace Go.Proofs
open Go.Eng
set_option linter.unusedVariables false
set_option maxRecDepth 100000
set_option maxHeartbeats 2000000
abbrev i64W (n : Int) : Value := .int .i64 n
abbrev u8W (n : Int) : Value := .int .u8 n
/-- a reader -/
abbrev rdC (e : Int) (s : ByteArray) (at_ : Int) : List Value := [i64W e, .string s, i64W at_]
theorem sAt_extract {s : ByteArray} {l h k : Nat} (hl : l + k < h) (hh : h ≤ s.size) : sAt (s.extract l h) k = sAt s (l + k) := by
  unfold sAt
  rw [extract_list, getD_drop, getD_take hl]
theorem str_ne {s : ByteArray} (h : 0 < s.size) : ¬ s = ⟨#[]⟩ := fun e => by subst e; exact Nat.lt_irrefl 0 h
theorem Tryz.rdNew (s : ByteArray) (L : List HP) : Con Tryz.prog 49 [.string s] L (Exs (fun b : Nat => .pointer (some ⟨b, 0, none⟩)) (fun b => ptc b 205 (rdC 0 s 0) :: L) (fun _ => True)) := by
  refine con_of Tryz.tysOk Tryz.func49 rfl rfl ?_
  conv => whnf
  repeat' ((with_reducible refine Nc.go' (fun _ => ?_)); conv => whnf)
  all_goals exact Exs.of _ Ent.rfl trivial rfl
theorem Tryz.rdTake (b : Nat) (s : ByteArray) (k n : Nat) (L : List HP) (hn : k + n ≤ s.size) (hs : s.size ≤ 1000000000) :
    Con Tryz.prog 92 [.pointer (some ⟨b, 0, none⟩), i64W n] (ptc b 205 (rdC 0 s k) :: L) (Is (.string (s.extract k (k + n))) (ptc b 205 (rdC 0 s ((k + n : Nat) : Int)) :: L)) := by
  refine con_of Tryz.tysOk Tryz.func92 rfl rfl ?_
  conv => whnf
  repeat' (first
    | (first | ((with_reducible refine Br.ff ?_); conv => whnf) | ((with_reducible refine Br.sn ?_); conv => whnf) | ((with_reducible refine Br.df ?_ ?_); (focus (first | assumption | omega)); conv => whnf) | ((with_reducible refine Br.ndf ?_ ?_); (focus (first | assumption | omega)); conv => whnf))
    | ((with_reducible refine Ar.i64 ?_ ?_); (focus omega); conv => whnf)
    | ((with_reducible refine Nd.mk ?_ ?_); (focus (first | omega | rfl | assumption | (simp; done))); conv => whnf)
    | ((with_reducible refine SubS.mid ?_ ?_); (focus (omega)); conv => whnf)
    | (refine Ld.at 0 rfl rfl ?_; conv => whnf)
    | (refine St.at 0 rfl (by first | exact Nat.le_of_ble_eq_true rfl | (simp; done)) rfl ?_; conv => whnf)
    | ((with_reducible refine Dr.by (id := 6) Tryz.tysOk rfl [(0, 0), (1, 0), (2, 0), (3, 0), (6, 0), (7, 0), (8, 0), (4, 1), (5, 0), (9, 1), (10, 0), (11, 0), (12, 0)] ?_ ?_); (focus kernel_rfl); conv => whnf)
    | ((with_reducible refine Dr.by (id := 9) Tryz.tysOk rfl [(0, 0), (1, 0), (2, 0), (4, 0), (5, 0), (6, 0), (8, 0), (9, 0), (10, 0), (12, 0), (3, 1), (7, 1), (11, 1), (13, 0), (14, 0), (15, 0)] ?_ ?_); (focus kernel_rfl); conv => whnf))
  all_goals (refine Is.ent ?_ ?_; (focus (exact Ent.rfl)); (exact Is.rfl))
theorem Tryz.rdByte (b : Nat) (s : ByteArray) (k : Nat) (L : List HP) (hn : k + 1 ≤ s.size) (hs : s.size ≤ 1000000000) :
    Con Tryz.prog 94 [.pointer (some ⟨b, 0, none⟩)] (ptc b 205 (rdC 0 s k) :: L) (Is (i64W (sAt s k).toNat) (ptc b 205 (rdC 0 s ((k + 1 : Nat) : Int)) :: L)) := by
  have hz := extract_size s k (k + 1) (by omega) hn
  have hne : ¬ s.extract k (k + 1) = ⟨#[]⟩ := str_ne (by omega)
  have e0 : sAt (s.extract k (k + 1)) 0 = sAt s k := sAt_extract (by omega) hn
  refine con_of Tryz.tysOk Tryz.func94 rfl rfl ?_
  conv => whnf
  repeat' (first
    | ((with_reducible refine Br.df ?_ ?_); (focus (first | assumption | omega)); conv => whnf)
    | ((with_reducible refine Ar.i64b ?_); conv => whnf)
    | ((with_reducible refine SIx.mk' ?_ ?_); (focus (omega)); conv => whnf)
    | ((refine Cl.isAt 0 rfl (Tryz.rdTake _ s k 1 _ hn hs) ?_); conv => whnf))
  all_goals exact Is.ent (by (exact Ent.rfl)) (Is.val (by rw [← e0]; rfl))
theorem Tryz.rdTwo (b : Nat) (s : ByteArray) (k : Nat) (L : List HP) (hn : k + 2 ≤ s.size) (hs : s.size ≤ 1000000000) :
    Con Tryz.prog 93 [.pointer (some ⟨b, 0, none⟩)] (ptc b 205 (rdC 0 s k) :: L) (Is (i64W ((sAt s k).toNat + 256 * (sAt s (k + 1)).toNat)) (ptc b 205 (rdC 0 s ((k + 2 : Nat) : Int)) :: L)) := by
  have hz := extract_size s k (k + 2) (by omega) hn
  have hne : ¬ s.extract k (k + 2) = ⟨#[]⟩ := str_ne (by omega)
  have e0 : sAt (s.extract k (k + 2)) 0 = sAt s k := sAt_extract (by omega) hn
  have e1 : sAt (s.extract k (k + 2)) 1 = sAt s (k + 1) := sAt_extract (by omega) hn
  refine con_of Tryz.tysOk Tryz.func93 rfl rfl ?_
  conv => whnf
  repeat' (first
    | ((with_reducible refine Br.df ?_ ?_); (focus (first | assumption | omega)); conv => whnf)
    | ((with_reducible refine Ar.i64b ?_); conv => whnf)
    | ((with_reducible refine SIx.mk' ?_ ?_); (focus (omega)); conv => whnf)
    | ((with_reducible refine Dr.by (id := 4) Tryz.tysOk rfl [(0, 0), (1, 0), (2, 0), (3, 0), (4, 0), (5, 0), (6, 1), (7, 0)] ?_ ?_); (focus kernel_rfl); conv => whnf)
    | ((with_reducible refine CD.is (fun M => Tryz.twoB _ _ _) ?_); conv => whnf)
    | ((refine Cl.isAt 0 rfl (Tryz.rdTake _ s k 2 _ hn hs) ?_); conv => whnf))
  all_goals exact Is.ent (by (exact Ent.rfl)) (Is.val (by rw [← e0, ← e1]; rfl))
theorem Tryz.rdErr (b : Nat) (e : Int) (s : ByteArray) (k : Int) (L : List HP) :
    Con Tryz.prog 51 [.pointer (some ⟨b, 0, none⟩)] (ptc b 205 (rdC e s k) :: L) (Is (i64W e) (ptc b 205 (rdC e s k) :: L)) := by
  refine con_of Tryz.tysOk Tryz.func51 rfl rfl ?_
  conv => whnf
  repeat' (first
    | ((with_reducible refine Br.sn ?_); conv => whnf)
    | (refine Ld.at 0 rfl rfl ?_; conv => whnf))
  all_goals (refine Is.ent ?_ ?_; (focus (exact Ent.rfl)); (exact Is.rfl))
/-- may an instruction be? -/
abbrev mayI (c x n : Int) : Prop := 0 ≤ c ∧ c ≤ 15 ∧ 0 ≤ x ∧ x ≤ 7 ∧ 0 ≤ n ∧ n ≤ 65535 ∧ (2 ≤ c ∧ c ≤ 10 → n ≤ 7) ∧ (c = 0 ∨ c = 15 → n = 0) ∧ (c = 0 ∨ c = 15 ∨ c = 11 → x = 0)
abbrev insV (c x n : Int) : Value := .agg #[u8W c, i64W x, i64W n]
theorem Tryz.codeRegister (c : Int) (L : List HP) : Con Tryz.prog 266 [u8W c] L (Is (.bool (decide (2 ≤ c ∧ c ≤ 10))) L) := by
  refine con_of Tryz.tysOk Tryz.func266 rfl rfl ?_
  conv => whnf
  repeat' (first
    | ((with_reducible refine Br.dt ?_ ?_); (focus (first | assumption | omega)); conv => whnf)
    | ((with_reducible refine Br.ds (fun _ => ?_) (fun _ => ?_) ) <;> (conv => whnf)))
  all_goals (refine Is.ent ?_ ?_; (focus (exact Ent.rfl)); (first | exact Is.tt (by omega) | exact Is.ff (by omega)))
/-- the codes' names -/
def nameL : List ByteArray := [⟨#[115, 116, 111, 112]⟩, ⟨#[115, 101, 116]⟩, ⟨#[109, 111, 118, 101]⟩, ⟨#[97, 100, 100]⟩, ⟨#[115, 117, 98]⟩, ⟨#[97, 110, 100]⟩, ⟨#[120, 111, 114]⟩, ⟨#[114, 101, 97, 100]⟩, ⟨#[119, 114, 105, 116, 101]⟩, ⟨#[114, 101, 97, 100, 50]⟩, ⟨#[119, 114, 105, 116, 101, 50]⟩, ⟨#[106, 117, 109, 112]⟩, ⟨#[122, 101, 114, 111]⟩, ⟨#[108, 101, 115, 115]⟩, ⟨#[99, 97, 108, 108]⟩, ⟨#[114, 101, 115, 116]⟩]
def nameF (c : Int) : ByteArray := nameL.getD c.toNat ⟨#[]⟩
theorem nameF_none {c : Int} (h0 : 0 ≤ c) : nameF c = ⟨#[]⟩ ↔ 16 ≤ c := by
  constructor
  · intro h
    rcases Int.lt_or_le c 16 with hlt | hle
    · have key : ∀ k, k < 16 → nameL.getD k ⟨#[]⟩ ≠ ⟨#[]⟩ := by decide
      exact (key c.toNat (by omega) h).elim
    · exact hle
  · intro h
    unfold nameF
    rw [List.getD_eq_getElem?_getD, List.getElem?_eq_none (by show 16 ≤ c.toNat; omega)]
    rfl
theorem Tryz.codeNames (L : List HP) : Con Tryz.prog 280 [] L (New strE 9 nameL L) := by
  refine con_of Tryz.tysOk Tryz.func280 rfl rfl ?_
  conv => whnf
  repeat' ((with_reducible refine Nc.go' (fun _ => ?_)); conv => whnf)
  all_goals exact New.of rfl (by decide) (fun _ => rfl) (Ent.own nameL rfl (by decide))
theorem Tryz.codeName (c : Int) (L : List HP) (hc : 0 ≤ c ∧ c ≤ 255) : Con Tryz.prog 267 [u8W c] L (Is (.string (nameF c)) L) := by
  have hl : nameL.length = 16 := rfl
  by_cases h : c < 16
  · refine con_of Tryz.tysOk Tryz.func267 rfl rfl ?_
    conv => whnf
    repeat' (first
      | ((with_reducible refine Br.dt ?_ ?_); (focus (first | assumption | omega)); conv => whnf)
      | ((with_reducible refine Ar.i64 ?_ ?_); (focus omega); conv => whnf)
      | ((with_reducible refine Ix.ad ?_ ?_ ?_); (focus (assumption)); (focus (omega)); conv => whnf)
      | ((apply Ld.rd0); (focus ((repeat ((refine Rd.own 0 rfl ?_); (assumption))); done)); (focus rfl); (focus (omega)); (focus rfl); conv => whnf)
      | ((with_reducible refine Cl.new (Tryz.codeNames _) (fun _ _ _ _ => ?_)); conv => whnf))
    all_goals (refine Is.ent ?_ ?_; (focus (refine FEnt.ent ?_; (repeat (first | exact FEnt.rfl | refine FEnt.drop ?_)); done)); (exact Is.rfl))
  · have e : nameF c = ⟨#[]⟩ := (nameF_none hc.1).2 (by omega)
    rw [e]
    refine con_of Tryz.tysOk Tryz.func267 rfl rfl ?_
    conv => whnf
    repeat' (first
      | ((with_reducible refine Br.df ?_ ?_); (focus (first | assumption | omega)); conv => whnf)
      | ((with_reducible refine Ar.i64 ?_ ?_); (focus omega); conv => whnf)
      | ((with_reducible refine Cl.new (Tryz.codeNames _) (fun _ _ _ _ => ?_)); conv => whnf))
    all_goals (refine Is.ent ?_ ?_; (focus (refine FEnt.ent ?_; (repeat (first | exact FEnt.rfl | refine FEnt.drop ?_)); done)); (exact Is.rfl))
theorem Tryz.codeMay (c x n : Int) (L : List HP) (hc : 0 ≤ c ∧ c ≤ 255) : Con Tryz.prog 250 [insV c x n] L (Is (.bool (decide (mayI c x n))) L) := by
  by_cases h16 : 16 ≤ c
  · have hn := (nameF_none hc.1).2 h16
    refine con_of Tryz.tysOk Tryz.func250 rfl rfl ?_
    conv => whnf
    repeat' (first
      | (first | ((with_reducible refine Br.tt ?_); conv => whnf) | ((with_reducible refine Br.dt ?_ ?_); (focus (first | assumption | omega)); conv => whnf) | ((with_reducible refine Br.df ?_ ?_); (focus (first | assumption | omega)); conv => whnf))
      | ((with_reducible refine Nc.go' (fun _ => ?_)); conv => whnf)
      | (refine Ld.at 0 rfl rfl ?_; conv => whnf)
      | (first | ((with_reducible refine Cl.is (Tryz.codeRegister _ _) ?_); conv => whnf) | ((with_reducible refine Cl.is (Tryz.codeName _ _ hc) ?_); conv => whnf)))
    all_goals (refine Is.ent ?_ ?_; (focus (refine FEnt.ent ?_; (repeat (first | exact FEnt.rfl | refine FEnt.drop ?_)); done)); (exact Is.ff (by omega)))
  · have hn : ¬ nameF c = ⟨#[]⟩ := fun e => h16 ((nameF_none hc.1).1 e)
    by_cases hr : 2 ≤ c ∧ c ≤ 10
    · refine con_of Tryz.tysOk Tryz.func250 rfl rfl ?_
      conv => whnf
      repeat' (first
        | (first | ((with_reducible refine Br.tt ?_); conv => whnf) | ((with_reducible refine Br.ff ?_); conv => whnf) | ((with_reducible refine Br.df ?_ ?_); (focus (first | assumption | omega)); conv => whnf))
        | ((with_reducible refine Nc.go' (fun _ => ?_)); conv => whnf)
        | (refine Ld.at 0 rfl rfl ?_; conv => whnf)
        | (first | ((with_reducible refine Cl.is (Con.dt hr (Tryz.codeRegister _ _)) ?_); conv => whnf) | ((with_reducible refine Cl.is (Tryz.codeName _ _ hc) ?_); conv => whnf))
        | ((with_reducible refine Br.ds (fun _ => ?_) (fun _ => ?_) ) <;> (conv => whnf)))
      all_goals (refine Is.ent ?_ ?_; (focus (refine FEnt.ent ?_; (repeat (first | exact FEnt.rfl | refine FEnt.drop ?_)); done)); (first | exact Is.tt (by omega) | exact Is.ff (by omega)))
    · refine con_of Tryz.tysOk Tryz.func250 rfl rfl ?_
      conv => whnf
      repeat' (first
        | (first | ((with_reducible refine Br.tt ?_); conv => whnf) | ((with_reducible refine Br.ff ?_); conv => whnf) | ((with_reducible refine Br.df ?_ ?_); (focus (first | assumption | omega)); conv => whnf))
        | ((with_reducible refine Nc.go' (fun _ => ?_)); conv => whnf)
        | (refine Ld.at 0 rfl rfl ?_; conv => whnf)
        | (first | ((with_reducible refine Cl.is (Con.df hr (Tryz.codeRegister _ _)) ?_); conv => whnf) | ((with_reducible refine Cl.is (Tryz.codeName _ _ hc) ?_); conv => whnf))
        | ((with_reducible refine Br.ds (fun _ => ?_) (fun _ => ?_) ) <;> (conv => whnf)))
      all_goals (refine Is.ent ?_ ?_; (focus (refine FEnt.ent ?_; (repeat (first | exact FEnt.rfl | refine FEnt.drop ?_)); done)); (first | exact Is.tt (by omega) | exact Is.ff (by omega) | (refine Is.dec ?_; omega)))
/-- four bytes' instruction -/
abbrev insC (s : ByteArray) : Int := ((sAt s 0).toNat : Int)
abbrev insX (s : ByteArray) : Int := ((sAt s 1).toNat : Int)
abbrev insN (s : ByteArray) : Int := ((sAt s 2).toNat : Int) + 256 * ((sAt s 3).toNat : Int)
abbrev insOk (s : ByteArray) : Prop := mayI (insC s) (insX s) (insN s)
theorem insC_ok (s : ByteArray) : 0 ≤ insC s ∧ insC s ≤ 255 := ⟨Int.natCast_nonneg _, u8_lt _⟩
theorem Tryz.codeGet (s : ByteArray) (L : List HP) (hs : 4 ≤ s.size) (hl : s.size ≤ 1000000000) (h : insOk s) : Con Tryz.prog 225 [.string s] L (Is (.tuple #[insV (insC s) (insX s) (insN s), i64W 0]) L) := by
  refine con_of Tryz.tysOk Tryz.func225 rfl rfl ?_
  conv => whnf
  repeat' (first
    | (first | ((with_reducible refine Br.nt ?_); conv => whnf) | ((with_reducible refine Br.ndf ?_ ?_); (focus (first | assumption | omega)); conv => whnf))
    | ((with_reducible refine Ar.u8b ?_); conv => whnf)
    | ((with_reducible refine Nd.mk ?_ ?_); (focus (first | omega | rfl | assumption | (simp; done))); conv => whnf)
    | ((with_reducible refine Nc.go' (fun _ => ?_)); conv => whnf)
    | (first | (refine LdN.at 0 rfl (by first | exact Nat.le_of_ble_eq_true rfl | (simp; done)) ?_; conv => whnf) | (refine LdN.at 2 rfl (by first | exact Nat.le_of_ble_eq_true rfl | (simp; done)) ?_; conv => whnf))
    | (first | (refine St.at 0 rfl (by first | exact Nat.le_of_ble_eq_true rfl | (simp; done)) rfl ?_; conv => whnf) | (refine St.at 2 rfl (by first | exact Nat.le_of_ble_eq_true rfl | (simp; done)) rfl ?_; conv => whnf))
    | (first | ((with_reducible refine Cl.exs (Tryz.rdNew _ _) (fun b1 _ => ?_)); conv => whnf) | ((refine Cl.isAt 0 rfl (Tryz.rdByte _ s 0 _ (by omega) hl) ?_); conv => whnf) | ((refine Cl.isAt 0 rfl (Tryz.rdByte _ s 1 _ (by omega) hl) ?_); conv => whnf) | ((refine Cl.isAt 0 rfl (Tryz.rdTwo _ s 2 _ (by omega) hl) ?_); conv => whnf) | ((refine Cl.isAt 1 rfl (Tryz.rdErr _ _ _ _ _) ?_); conv => whnf) | ((with_reducible refine Cl.is (Con.dt h (Tryz.codeMay (insC s) (insX s) (insN s) _ (insC_ok s))) ?_); conv => whnf))
    | ((rw [u8of_toNat]); conv => whnf))
  all_goals (refine Is.ent ?_ ?_; (focus (refine FEnt.ent ?_; (repeat (first | exact FEnt.rfl | refine FEnt.drop ?_)); done)); (exact Is.rfl))
theorem Tryz.codeGetNo (s : ByteArray) (L : List HP) (hs : 4 ≤ s.size) (hl : s.size ≤ 1000000000) (h : ¬ insOk s) : Con Tryz.prog 225 [.string s] L (Is (.tuple #[insV 0 0 0, i64W 12]) L) := by
  refine con_of Tryz.tysOk Tryz.func225 rfl rfl ?_
  conv => whnf
  repeat' (first
    | (first | ((with_reducible refine Br.nf ?_); conv => whnf) | ((with_reducible refine Br.ndf ?_ ?_); (focus (first | assumption | omega)); conv => whnf))
    | ((with_reducible refine Ar.u8b ?_); conv => whnf)
    | ((with_reducible refine Nd.mk ?_ ?_); (focus (first | omega | rfl | assumption | (simp; done))); conv => whnf)
    | ((with_reducible refine Nc.go' (fun _ => ?_)); conv => whnf)
    | (first | (refine LdN.at 0 rfl (by first | exact Nat.le_of_ble_eq_true rfl | (simp; done)) ?_; conv => whnf) | (refine LdN.at 2 rfl (by first | exact Nat.le_of_ble_eq_true rfl | (simp; done)) ?_; conv => whnf))
    | (first | (refine St.at 0 rfl (by first | exact Nat.le_of_ble_eq_true rfl | (simp; done)) rfl ?_; conv => whnf) | (refine St.at 2 rfl (by first | exact Nat.le_of_ble_eq_true rfl | (simp; done)) rfl ?_; conv => whnf))
    | (first | ((with_reducible refine Cl.exs (Tryz.rdNew _ _) (fun b1 _ => ?_)); conv => whnf) | ((refine Cl.isAt 0 rfl (Tryz.rdByte _ s 0 _ (by omega) hl) ?_); conv => whnf) | ((refine Cl.isAt 0 rfl (Tryz.rdByte _ s 1 _ (by omega) hl) ?_); conv => whnf) | ((refine Cl.isAt 0 rfl (Tryz.rdTwo _ s 2 _ (by omega) hl) ?_); conv => whnf) | ((refine Cl.isAt 1 rfl (Tryz.rdErr _ _ _ _ _) ?_); conv => whnf) | ((with_reducible refine Cl.is (Con.df h (Tryz.codeMay (insC s) (insX s) (insN s) _ (insC_ok s))) ?_); conv => whnf))
    | ((rw [u8of_toNat]); conv => whnf))
  all_goals (refine Is.ent ?_ ?_; (focus (refine FEnt.ent ?_; (repeat (first | exact FEnt.rfl | refine FEnt.drop ?_)); done)); (exact Is.rfl))
end Go.Proofs
