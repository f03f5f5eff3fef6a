/- The library's stable sort, of spans. -/
import Derived.Test.YtaacolkdlmfifaaGreatSpanB
set_option linter.all false
namespace Go.Proofs
open Go.Eng
set_option linter.unusedVariables false
set_option maxRecDepth 100000

/-- what a function gives that turns a row in place -/
structure Turns {α : Type} (E : Enc α) (t : TypeId) (a : Option Addr) (c : Nat) (R : List α → Prop) (L : List HP) (v : Value) (L' : List HP) : Prop where
  is : v = .tuple #[] ∧ ∃ ys, R ys ∧ Ent L' (own E t a c ys :: L)
theorem Cl.turns {P : Program} {α : Type} {E : Enc α} {t : TypeId} {a : Option Addr} {c : Nat} {R : List α → Prop} {L M : List HP} {f : FuncId} {args : List Value} {K : Value → List HP → Prop} {X : List PanicEntry → List HP → Prop}
    (h : Con P f args L (Turns E t a c R M)) (k : ∀ ys, R ys → K (.tuple #[]) (own E t a c ys :: M)) : Cl P f args L K X :=
  ⟨⟨h.ent, fun w s => (h.run w s).mono fun e w' => by
    cases e with
    | returned v => rintro ⟨L', s', ⟨rfl, ys, hR, he⟩⟩; exact ⟨_, he _ s', k ys hR⟩
    | panicked ch => rintro ⟨L', s', r⟩; exact r.elim
    | outgrown => exact id⟩⟩
theorem Turns.of {α : Type} {E : Enc α} {t : TypeId} {a : Option Addr} {c : Nat} {R : List α → Prop} {L L' : List HP} (ys : List α) (hR : R ys) (h : Ent L' (own E t a c ys :: L)) : Turns E t a c R L (.tuple #[]) L' := ⟨rfl, ys, hR, h⟩

theorem get_some {xs : List Sp} {k : Nat} {d : Sp} (h : k < xs.length) : xs[k]? = some (xs.getD k d) := by simp [List.getD, h]
theorem swp_step {xs zs : List Sp} {p n m i : Nat} {d : Sp} (hz : zs.length = xs.length) (hlt : p + n + m + n ≤ xs.length) (hi : i < n)
    (h3 : ∀ q, zs[q]? = if p ≤ q ∧ q < p + i then xs[q + n + m]? else if p + n + m ≤ q ∧ q < p + n + m + i then xs[q - n - m]? else xs[q]?) :
    ∀ q, ((zs.set (p + i) (zs.getD (p + n + m + i) d)).set (p + n + m + i) (zs.getD (p + i) d))[q]? = if p ≤ q ∧ q < p + (i + 1) then xs[q + n + m]? else if p + n + m ≤ q ∧ q < p + n + m + (i + 1) then xs[q - n - m]? else xs[q]? := by
  intro q
  have e1 : some (zs.getD (p + n + m + i) d) = xs[p + n + m + i]? := by rw [← get_some (by omega), h3, if_neg (by omega), if_neg (by omega)]
  have e2 : some (zs.getD (p + i) d) = xs[p + i]? := by rw [← get_some (by omega), h3, if_neg (by omega), if_neg (by omega)]
  rw [List.getElem?_set, List.getElem?_set]
  simp only [List.length_set]
  by_cases h1 : p + n + m + i = q
  · rw [if_pos h1, if_pos (by omega), if_neg (by omega), if_pos (by omega), e2]
    congr 1; omega
  · rw [if_neg h1]
    by_cases h2 : p + i = q
    · rw [if_pos h2, if_pos (by omega), if_pos (by omega), e1]
      congr 1; omega
    · rw [if_neg h2, h3]
      repeat' split
      all_goals first
        | omega
        | rfl
theorem swp_end {P X M Y Q zs : List Sp} {n : Nat} (hX : X.length = n) (hY : Y.length = n)
    (h3 : ∀ q, zs[q]? = if P.length ≤ q ∧ q < P.length + n then (P ++ X ++ M ++ Y ++ Q)[q + n + M.length]? else if P.length + n + M.length ≤ q ∧ q < P.length + n + M.length + n then (P ++ X ++ M ++ Y ++ Q)[q - n - M.length]? else (P ++ X ++ M ++ Y ++ Q)[q]?) :
    zs = P ++ Y ++ M ++ X ++ Q := by
  refine List.ext_getElem? fun q => ?_
  rw [h3]
  simp only [List.append_assoc, List.getElem?_append, hX, hY]
  repeat' split
  all_goals first
    | omega
    | rfl
    | (congr 1; omega)
/-- the rows X and Y, of n each, are exchanged -/
theorem Tryz.swapRange (a : Option Addr) (c : Nat) (P X M Y Q : List Sp) (n : Nat) (L : List HP) (t : TypeId) (cmp : Value) (len : Nat) (p q m : Int) (hX : X.length = n) (hY : Y.length = n)
    (hlen0 : len = (P ++ X ++ M ++ Y ++ Q).length) (hp : p = P.length) (hq : q = (P.length + n + M.length : Nat)) (hm : m = n) (hl : len ≤ 1099511627776) (had : Ad a len) :
    Con Tryz.prog 110 [.slice a len c, .int .i64 p, .int .i64 q, .int .i64 m, cmp] (own spE t a c (P ++ X ++ M ++ Y ++ Q) :: L)
      (Is (.tuple #[]) (own spE t a c (P ++ Y ++ M ++ X ++ Q) :: L)) := by
  subst hlen0 hp hq hm
  generalize hxs : P ++ X ++ M ++ Y ++ Q = xs at *
  have hlen : xs.length = P.length + n + M.length + n + Q.length := by rw [← hxs]; simp; omega
  refine con_of Tryz.tysOk Tryz.func110 rfl rfl ?_
  conv => whnf
  refine Lp.by2 Tryz.tysOk [10] (fun (i : Nat) (zs : List Sp) => [.int .i64 i]) (fun i zs => own spE t a c zs :: L) (fun i zs => i ≤ n ∧ zs.length = xs.length ∧ ∀ q, zs[q]? = if P.length ≤ q ∧ q < P.length + i then xs[q + n + M.length]? else if P.length + n + M.length ≤ q ∧ q < P.length + n + M.length + i then xs[q - n - M.length]? else xs[q]?) (fun i zs => n - i) (0) (xs) (by kernel_rfl) (by (exact Ent.rfl)) (⟨by omega, rfl, fun q => by rw [if_neg (by omega), if_neg (by omega)]⟩) ?_
  rintro i zs ⟨h1, h2, h3⟩
  conv => whnf
  repeat (intro _; conv => whnf)
  have had' : Ad a zs.length := by rw [h2]; exact had
  conv => whnf
  repeat' (first
    | ((with_reducible refine Ar.i64 ?_ ?_); (focus omega); conv => whnf)
    | ((with_reducible refine Nd.mk ?_ ?_); (focus (first | omega | rfl | assumption | (simp; done))); conv => whnf)
    | ((with_reducible refine Ix.ad ?_ ?_ ?_); (focus (assumption)); (focus (omega)); conv => whnf)
    | ((apply LdN.rd); (focus ((repeat ((refine Rd.own 0 rfl ?_); (assumption))); done)); (focus rfl); (focus rfl); (focus (omega)); conv => whnf)
    | ((with_reducible refine Dr.by (id := 3) Tryz.tysOk rfl [(0, 0), (1, 0), (2, 0), (3, 0), (4, 0), (5, 0), (6, 0), (7, 0), (8, 0), (9, 0), (10, 0), (11, 0), (12, 0), (14, 0), (15, 0), (16, 0), (17, 0), (18, 0), (13, 1), (19, 1), (20, 0), (21, 3), (22, 0), (23, 3)] ?_ ?_); (focus kernel_rfl); conv => whnf)
    | ((refine St.own0 0 rfl rfl ?_ (_, _) rfl (by exact Nat.le_of_ble_eq_true rfl) rfl ?_; (focus (first | omega | (simp only [List.length_set, List.length_append, List.length_take, List.length_drop, List.length_cons, List.length_nil] at *; omega)))); conv => whnf)
    | ((with_reducible refine Br.ds (fun _ => ?_) (fun _ => ?_) ) <;> (conv => whnf)))
  · refine ⟨i + 1, _, by kernel_rfl, by (exact Ent.rfl), ⟨by omega, ?_, ?_⟩, by omega⟩
    · simp only [List.length_set]; exact h2
    · have e1 : ((P.length : Int) + (i : Int)).toNat = P.length + i := by omega
      have e2 : (((P.length + n + M.length : Nat) : Int) + (i : Int)).toNat = P.length + n + M.length + i := by omega
      rw [e1, e2]
      exact swp_step (d := spE.d) h2 (by omega) (by omega) h3
  · have e : i = n := by omega
    subst e
    rw [← hxs] at h3
    rw [swp_end hX hY h3]
    exact Is.rfl

/-- U and V, side by side, are exchanged -/
theorem Tryz.rotate (a : Option Addr) (c : Nat) (zs P U V Q : List Sp) (hz : zs = P ++ U ++ V ++ Q) (L : List HP) (t : TypeId) (cmp : Value) (n : Nat) (p q r : Int) (hU : U ≠ []) (hV : V ≠ [])
    (hn : n = (P ++ U ++ V ++ Q).length) (hp : p = P.length) (hq : q = (P.length + U.length : Nat)) (hr : r = (P.length + U.length + V.length : Nat)) (hl : n ≤ 1099511627776) (had : Ad a n) :
    Con Tryz.prog 109 [.slice a n c, .int .i64 p, .int .i64 q, .int .i64 r, cmp] (own spE t a c zs :: L)
      (Is (.tuple #[]) (own spE t a c (P ++ V ++ U ++ Q) :: L)) := by
  subst hz
  have hlen : n = P.length + U.length + V.length + Q.length := by rw [hn]; simp; omega
  refine con_of Tryz.tysOk Tryz.func109 rfl rfl ?_
  conv => whnf
  repeat' ((with_reducible refine Ar.i64 ?_ ?_); (focus omega); conv => whnf)
  rw [show q - p = (U.length : Int) from by omega, show r - q = (V.length : Int) from by omega]
  conv => whnf
  refine Lp.by4 Tryz.tysOk [10, 11] (fun (P' U' V' Q' : List Sp) => [.int .i64 U'.length, .int .i64 V'.length]) (fun P' U' V' Q' => own spE t a c (P' ++ U' ++ V' ++ Q') :: L) (fun P' U' V' Q' => U' ≠ [] ∧ V' ≠ [] ∧ P'.length + U'.length = P.length + U.length ∧ P' ++ V' ++ U' ++ Q' = P ++ V ++ U ++ Q) (fun P' U' V' Q' => U'.length + V'.length) (P) (U) (V) (Q) (by kernel_rfl) (by (exact Ent.rfl)) (⟨hU, hV, rfl, rfl⟩) ?_
  rintro P' U' V' Q' ⟨h1, h2, h3, h4⟩
  conv => whnf
  repeat (intro _; conv => whnf)
  have hl4 := congrArg List.length h4
  simp only [List.length_append] at hl4
  conv => whnf
  repeat' (first
    | ((with_reducible refine Ar.i64 ?_ ?_); (focus omega); conv => whnf)
    | (first | ((with_reducible refine Br.ds (fun _ => ?_) (fun _ => ?_) ) <;> (conv => whnf)) | ((with_reducible refine Br.nds (fun _ => ?_) (fun _ => ?_) ) <;> (conv => whnf))))
  · obtain ⟨U1, U2, rfl, e⟩ : ∃ U1 U2, U' = U1 ++ U2 ∧ U1.length = V'.length := ⟨U'.take V'.length, U'.drop V'.length, by simp, by rw [List.length_take]; omega⟩
    simp only [List.length_append] at h3 hl4
    have e0 : ((U1 ++ U2).length : Int) = U1.length + U2.length := by simp
    have hc : P' ++ (U1 ++ U2) ++ V' ++ Q' = P' ++ U1 ++ U2 ++ V' ++ Q' := by simp
    rw [hc]
    refine Cl.is (Tryz.swapRange a c P' U1 U2 V' Q' V'.length L t cmp n _ _ _ e rfl (by rw [hlen]; simp; omega) (by omega) (by omega) rfl hl had) ?_
    conv => whnf
    repeat' ((with_reducible refine Ar.i64 ?_ ?_); (focus omega); conv => whnf)
    rw [show ((U1 ++ U2).length : Int) - (V'.length : Int) = (U2.length : Int) from by omega]
    have hu : U2 ≠ [] := fun h => by have := congrArg List.length h; simp only [List.length_nil] at this; omega
    have hu1 : U1 ≠ [] := fun h => by subst h; simp at e; exact h2 (List.eq_nil_of_length_eq_zero e.symm)
    rw [show U1.length = V'.length from e] at h3
    refine ⟨P' ++ V', U2, U1, Q', (by rw [← e]; kernel_rfl), (by (exact Ent.rfl)), ⟨hu, hu1, by simp only [List.length_append]; omega, by rw [← h4]; simp⟩, by simp only [List.length_append]; have := List.length_pos_iff.2 hu1; omega⟩
  · obtain ⟨V1, V2, rfl, e⟩ : ∃ V1 V2, V' = V1 ++ V2 ∧ V2.length = U'.length := ⟨V'.take (V'.length - U'.length), V'.drop (V'.length - U'.length), by simp, by rw [List.length_drop]; omega⟩
    simp only [List.length_append] at h3 hl4
    have e0 : ((V1 ++ V2).length : Int) = V1.length + V2.length := by simp
    have hc : P' ++ U' ++ (V1 ++ V2) ++ Q' = P' ++ U' ++ V1 ++ V2 ++ Q' := by simp
    rw [hc]
    refine Cl.is (Tryz.swapRange a c P' U' V1 V2 Q' U'.length L t cmp n _ _ _ rfl e (by rw [hlen]; simp; omega) (by omega) (by omega) rfl hl had) ?_
    conv => whnf
    repeat' ((with_reducible refine Ar.i64 ?_ ?_); (focus omega); conv => whnf)
    rw [show ((V1 ++ V2).length : Int) - (U'.length : Int) = (V1.length : Int) from by omega]
    have hu : V1 ≠ [] := fun h => by have := congrArg List.length h; simp only [List.length_nil] at this; omega
    have hu1 : V2 ≠ [] := fun h => by subst h; simp at e; exact h1 (List.eq_nil_of_length_eq_zero e.symm)
    refine ⟨P', V2, V1, U' ++ Q', (by rw [e]; kernel_rfl), Ent.of_eq (by simp), ⟨hu1, hu, by omega, by rw [← h4]; simp⟩, by simp only [List.length_append]; have := List.length_pos_iff.2 hu1; omega⟩
  · have e : U'.length = V'.length := by omega
    have hc : P' ++ U' ++ V' ++ Q' = P' ++ U' ++ [] ++ V' ++ Q' := by simp
    rw [hc]
    refine Cl.is (Tryz.swapRange a c P' U' [] V' Q' U'.length L t cmp n _ _ _ rfl e.symm (by rw [hlen]; simp; omega) (by omega) (by simp; omega) rfl hl had) ?_
    conv => whnf
    repeat' skip
    refine Is.ent (Ent.of_eq ?_) Is.rfl
    rw [← h4]
    simp
end Go.Proofs
