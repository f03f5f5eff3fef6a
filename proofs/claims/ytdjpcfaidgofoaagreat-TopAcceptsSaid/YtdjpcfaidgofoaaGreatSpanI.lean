/- Spans: the gaps. -/
import Derived.Test.YtdjpcfaidgofoaaGreatCode
import Derived.Test.YtdjpcfaidgofoaaGreatSpanG
set_option linter.all false
namespace Go.Eng
open Go
set_option linter.unusedVariables false
variable {P : Program} {τ : Tys} {L M : List HP} {α β : Type}
/-- some parts, one for each of a list -/
def bigH (H : β → HP) : List β → HP
  | [] => fun _ h => h = []
  | x :: xs => star (H x) (bigH H xs)
theorem parts_one {A : HP} {e : Out} {h : Chunk} : Parts e [A] h ↔ A e h := by
  constructor
  · rintro ⟨h1, h2, rfl, ha, hb⟩
    have hb : h2 = [] := hb
    subst hb
    rw [List.append_nil]; exact ha
  · intro ha; exact ⟨h, [], by simp, ha, rfl⟩
theorem star_spec {A B : HP} {e : Out} {h : Chunk} : star A B e h ↔ ∃ h1 h2, h = h1 ++ h2 ∧ A e h1 ∧ B e h2 := by
  constructor
  · rintro ⟨h1, h2, rfl, ha, hb⟩; exact ⟨h1, h2, rfl, ha, parts_one.1 hb⟩
  · rintro ⟨h1, h2, rfl, ha, hb⟩; exact ⟨h1, h2, rfl, ha, parts_one.2 hb⟩
theorem big_app (H : β → HP) {e : Out} : ∀ {xs ys : List β} {h : Chunk}, bigH H (xs ++ ys) e h ↔ ∃ h1 h2, h = h1 ++ h2 ∧ bigH H xs e h1 ∧ bigH H ys e h2
  | [], ys, h => ⟨fun hh => ⟨[], h, rfl, rfl, hh⟩, fun ⟨h1, h2, e1, e2, e3⟩ => by
      have e2 : h1 = [] := e2
      subst e2; subst e1; exact e3⟩
  | x :: xs, ys, h => by
    constructor
    · intro hh
      obtain ⟨h1, h2, rfl, ha, hb⟩ := star_spec.1 hh
      obtain ⟨h3, h4, rfl, hc, hd⟩ := (big_app H (xs := xs)).1 hb
      exact ⟨h1 ++ h3, h4, by simp, star_spec.2 ⟨h1, h3, rfl, ha, hc⟩, hd⟩
    · rintro ⟨h1, h2, rfl, hh, hd⟩
      obtain ⟨h3, h4, rfl, ha, hc⟩ := star_spec.1 hh
      exact star_spec.2 ⟨h3, h4 ++ h2, by simp, ha, (big_app H (xs := xs)).2 ⟨h4, h2, rfl, hc, hd⟩⟩
theorem FEnt.shut {A : HP} {N : List HP} (hs : ∀ e c, Parts e N c → A e c) (h : FEnt L (N ++ M)) : FEnt L (A :: M) := fun K w s => by
  have s1 := h K w s
  have hp : (K ++ (N ++ M)).Perm (N ++ (K ++ M)) := by
    rw [← List.append_assoc, ← List.append_assoc]
    exact List.perm_append_comm.append_right M
  exact ((s1.perm hp).shut hs).perm List.perm_middle.symm
theorem FEnt.big0 {H : β → HP} (h : FEnt L M) : FEnt L (bigH H [] :: M) := FEnt.shut (N := []) (fun e c hc => hc) h
theorem FEnt.bigS {H : β → HP} {x : β} {xs : List β} (h : FEnt L (H x :: bigH H xs :: M)) : FEnt L (bigH H (xs ++ [x]) :: M) := fun K w s => by
  have s1 := h K w s
  have hp : (K ++ H x :: bigH H xs :: M).Perm ([bigH H xs, H x] ++ (K ++ M)) := by
    have e : K ++ H x :: bigH H xs :: M = (K ++ [H x, bigH H xs]) ++ M := by simp
    rw [e, ← List.append_assoc]
    refine List.Perm.append_right M (List.perm_append_comm.trans (List.Perm.append_right K (List.Perm.swap _ _ _)))
  have s2 : Sat w (bigH H (xs ++ [x]) :: (K ++ M)) := (s1.perm hp).shut fun e c hc => by
    obtain ⟨h1, h2, rfl, ha, hb⟩ := hc
    exact (big_app H).2 ⟨h1, h2, rfl, ha, star_spec.2 ⟨h2, [], by simp, parts_one.1 hb, rfl⟩⟩
  exact s2.perm List.perm_middle.symm
theorem Ent.big1 {H : β → HP} {x : β} : Ent (bigH H [x] :: L) (H x :: L) := fun w s => s.opened (M := [H x]) fun e c hc => by
  obtain ⟨h1, h2, rfl, ha, hb⟩ := star_spec.1 hc
  have hb : h2 = [] := hb
  subst hb
  rw [List.append_nil]
  exact parts_one.2 ha
/-- what one of many parts says -/
theorem Sat.big {w : World} {H : β → HP} {xs : List β} (s : Sat w L) (i : Nat) (hi : L[i]? = some (bigH H xs)) {k : Nat} {x : β} (hk : xs[k]? = some x) : ∃ h, H x (World.out w) h ∧ OkH w h := by
  obtain ⟨h, hh, ok⟩ := s.at i hi
  clear s hi
  induction xs generalizing h k with
  | nil => simp at hk
  | cons y ys ih =>
    obtain ⟨h1, h2, rfl, ha, hb⟩ := star_spec.1 hh
    cases k with
    | zero => simp at hk; subst hk; exact ⟨h1, ha, ok.left⟩
    | succ k => exact ih (by simpa using hk) h2 hb ok.right
/-- a cell of one of many parts is read -/
theorem Ld.big {H : β → HP} {xs : List β} {b o : Nat} {v : Value} {K : Value → Prop} (i : Nat) (hi : L[i]? = some (bigH H xs)) {k : Nat} {x : β} (hk : xs[k]? = some x)
    (hx : ∀ e h, H x e h → ∃ t cs, (b, Obj.cells cs t (0, 0)) ∈ h ∧ cs[o]? = some v) (kk : K v) : Ld L ⟨b, o, none⟩ K :=
  ⟨v, fun w s => by
    obtain ⟨h, hh, ok⟩ := s.big i hi hk
    obtain ⟨t, cs, hm, hv⟩ := hx _ _ hh
    exact cell_of (ok.on _ hm) hv, kk⟩
theorem star_cell {b o : Nat} {t : TypeId} {cs : List Value} {v : Value} {B : HP} (hv : cs[o]? = some v) : ∀ e h, star (ptc b t cs) B e h → ∃ t' cs', (b, Obj.cells cs' t' (0, 0)) ∈ h ∧ cs'[o]? = some v := fun e h hh => by
  obtain ⟨h1, h2, rfl, ha, hb⟩ := star_spec.1 hh
  cases ha
  exact ⟨t, cs.toArray, by simp, by simpa using hv⟩
/-- a call that lays more, over a part wherever it stands -/
theorem CN.exsAt {f : FuncId} {args : List Value} {B : HP} {V : β → Value} {H : β → List HP} {R : β → Prop} {K : Value → List HP → Prop} (i : Nat) (hi : L[i]? = some B)
    (c : ∀ M, Con P f args (B :: M) (Exs V (fun x => H x ++ (B :: M)) R)) (k : ∀ x, R x → K (V x) (H x ++ L)) : CN P f args L K := by
  refine CN.exs (V := V) (H := H) (R := R) (fun M => ?_) k
  have hp : (M ++ L).Perm (B :: (M ++ L.eraseIdx i)) := ((perm_at L i hi).append_left M).trans List.perm_middle
  refine (Con.entl (Ent.perm hp) (c _)).mono (fun v L' h => ?_) (fun _ _ h => h)
  obtain ⟨x, r, hv, e⟩ := h.go
  exact ⟨x, r, hv, e.trans (Ent.perm ((hp.symm).append_left (H x)))⟩
/-! rows within a block -/
variable {E : Enc α}
theorem arr_at {A B : List Value} {xs : List α} {k j : Nat} (hk : k < xs.length) (hj : j < E.sz) : (A ++ (E.flat xs ++ B))[A.length + (k * E.sz + j)]? = (E.e (xs.getD k E.d))[j]? := by
  rw [List.getElem?_append_right (by omega), Nat.add_sub_cancel_left, List.getElem?_append_left, E.flat_at xs k j hk hj]
  rw [E.flat_len]
  have h1 : (k + 1) * E.sz ≤ xs.length * E.sz := Nat.mul_le_mul_right _ hk
  rw [Nat.add_mul] at h1
  omega
theorem Ld.arrE {b o j sz : Nat} {t : TypeId} {A B : List Value} {xs : List α} {n : Int} {v : Value} {K : Value → Prop} (i : Nat) (hi : L[i]? = some (ptc b t (A ++ (E.flat xs ++ B)))) (ho : A.length = o) (hs : E.sz = sz) (hb : 0 ≤ n ∧ n < xs.length)
    (hv : (E.e (xs.getD n.toNat E.d))[j]? = some v) (k : K v) : Ld L ⟨b, o + n.toNat * sz + j, none⟩ K := by
  subst ho hs
  have hj : j < E.sz := by
    rw [← E.len (xs.getD n.toNat E.d)]
    exact (List.getElem?_eq_some_iff.1 hv).1
  exact Ld.at i hi (by rw [Nat.add_assoc, arr_at (by omega) hj]; exact hv) k
theorem Ld.arrE0 {b o sz : Nat} {t : TypeId} {A B : List Value} {xs : List α} {n : Int} {v : Value} {K : Value → Prop} (i : Nat) (hi : L[i]? = some (ptc b t (A ++ (E.flat xs ++ B)))) (ho : A.length = o) (hs : E.sz = sz) (hb : 0 ≤ n ∧ n < xs.length)
    (hv : (E.e (xs.getD n.toNat E.d))[0]? = some v) (k : K v) : Ld L ⟨b, o + n.toNat * sz, none⟩ K := Ld.arrE (j := 0) i hi ho hs hb hv k
theorem LdN.arrE {b o m sz : Nat} {t : TypeId} {A B : List Value} {xs : List α} {n : Int} {K : List Value → Prop} (i : Nat) (hi : L[i]? = some (ptc b t (A ++ (E.flat xs ++ B)))) (ho : A.length = o) (hs : E.sz = sz) (hm : m = sz) (hb : 0 ≤ n ∧ n < xs.length)
    (k : K (E.e (xs.getD n.toNat E.d))) : LdN L ⟨b, o + n.toNat * sz, none⟩ m K := by
  subst ho hs hm
  refine ⟨_, E.len _, fun w s j u hu => ?_, k⟩
  have hj : j < E.sz := by
    rw [← E.len (xs.getD n.toNat E.d)]
    exact (List.getElem?_eq_some_iff.1 hu).1
  rw [add_of]
  refine cell_of (s.pto i hi) ?_
  rw [Nat.add_assoc, List.getElem?_toArray, arr_at (by omega) hj]
  exact hu
theorem set_arr {A B : List Value} {xs : List α} {k : Nat} (hk : k < xs.length) (x : α) : ovr (A ++ (E.flat xs ++ B)) (A.length + k * E.sz) (E.e x) = A ++ (E.flat (xs.set k x) ++ B) := by
  have hl : k * E.sz + E.sz ≤ xs.length * E.sz := by
    have h1 : (k + 1) * E.sz ≤ xs.length * E.sz := Nat.mul_le_mul_right _ hk
    rw [Nat.add_mul] at h1
    omega
  have h1 : ovr (E.flat xs) (k * E.sz + 0) (E.e x) = E.flat (xs.set k x) := by
    refine (flat_set xs k 0 x (E.e x) hk ?_ (by rw [E.len]; omega)).symm
    have h2 : ovr (E.e (xs.getD k E.d)) 0 (E.e x) = List.take 0 (E.e (xs.getD k E.d)) ++ E.e x ++ List.drop (0 + (E.e x).length) (E.e (xs.getD k E.d)) := ovr_eq (by rw [E.len, E.len]; omega)
    rw [h2, List.take_zero, List.nil_append, List.drop_of_length_le (by rw [E.len, E.len]; omega), List.append_nil]
  rw [ovr_right, ovr_app (by rw [E.len, E.flat_len]; omega), ← h1, Nat.add_zero]
theorem St.arrE {b o sz : Nat} {t : TypeId} {A B : List Value} {xs : List α} {n : Int} {vs : List Value} {K : List HP → Prop} (i : Nat) (hi : L[i]? = some (ptc b t (A ++ (E.flat xs ++ B)))) (ho : A.length = o) (hs : E.sz = sz) (hb : 0 ≤ n ∧ n < xs.length) (x : α)
    (hx : E.e x = vs) (k : lsetK L i (ptc b t (A ++ (E.flat (xs.set n.toNat x) ++ B))) K) : St P L ⟨b, o + n.toNat * sz, none⟩ vs K := by
  subst ho hs hx
  refine St.at i hi ?_ (E.one x) ?_
  · have h1 : (n.toNat + 1) * E.sz ≤ xs.length * E.sz := Nat.mul_le_mul_right _ (by omega)
    rw [Nat.add_mul] at h1
    rw [E.len, List.length_append, List.length_append, E.flat_len]
    omega
  · rw [set_arr (by omega)]
    exact k
/-- a cell ahead of a row that is not known -/
theorem St.hd {b o : Nat} {t : TypeId} {A B : List Value} {vs : List Value} {K : List HP → Prop} (i : Nat) (hi : L[i]? = some (ptc b t (A ++ B))) (hl : o + vs.length ≤ A.length) (h1 : oneAll vs = true) (k : lsetK L i (ptc b t (ovr A o vs ++ B)) K) : St P L ⟨b, o, none⟩ vs K := by
  refine St.at i hi (by rw [List.length_append]; omega) h1 ?_
  rw [ovr_app hl]
  exact k
/-! rows made by places -/
def rowsF (f : Nat → α) (k : Nat) : List α := (List.range k).map f
theorem rowsF_len (f : Nat → α) (k : Nat) : (rowsF f k).length = k := by simp [rowsF]
theorem rowsF_succ (f : Nat → α) (k : Nat) : rowsF f (k + 1) = rowsF f k ++ [f k] := by simp [rowsF, List.range_succ]
theorem rowsF_getD (f : Nat → α) {k i : Nat} (d : α) (h : i < k) : (rowsF f k).getD i d = f i := by simp [rowsF, List.getD, h]
end Go.Eng
set_option linter.all false
namespace Go.Proofs
open Go.Eng
set_option linter.unusedVariables false
set_option maxRecDepth 100000
set_option maxHeartbeats 600000

/-- where the last span that was seen ends -/
def atF (M : List Sp) : Nat → Int
  | 0 => 0
  | k + 1 => (M.getD k spE.d).2
theorem atF_pos {M : List Sp} {k : Nat} (h : 0 < k) : atF M k = (M.getD (k - 1) spE.d).2 := by
  cases k with
  | zero => omega
  | succ k => rfl
theorem canon_lt {M : List Sp} (hM : Canon M) {i j : Nat} (hij : i < j) (hj : j < M.length) : (M.getD i spE.d).2 < (M.getD j spE.d).1 := by
  have := List.pairwise_iff_getElem.1 hM.ap i j (by omega) hj hij
  simpa [List.getD, hj, show i < M.length from by omega] using this
end Go.Proofs
