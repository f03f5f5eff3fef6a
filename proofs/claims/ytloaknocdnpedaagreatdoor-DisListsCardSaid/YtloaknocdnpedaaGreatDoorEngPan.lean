/- A region that draws its order, and in which one operation panics: all others that may come before it only read. -/
import Derived.Test.YtloaknocdnpedaaGreatDoorEngMore
set_option linter.all false
namespace Go.Eng
set_option linter.unusedVariables false
variable {P : Program} {τ : Tys} {D : List Deferred} {ops : Array Oper}
theorem Cl.pan {f : FuncId} {args : List Value} {L : List HP} {K : Value → List HP → Prop} {X Xc : List PanicEntry → List HP → Prop} (c : Con P f args L (fun _ _ => False) Xc) (k : ∀ ch L', Xc ch L' → X ch L') : Cl P f args L K X :=
  ⟨c.mono (fun _ _ h => h.elim) k⟩
def awayB (ops : Array Oper) (dst : Option Nat) (o : Oper) : Bool :=
  match dst with
  | none => true
  | some d => !(o.looksAt ops).contains d
theorem awayB_spec {dst : Option Nat} {o : Oper} (h : awayB ops dst o = true) : ∀ d, dst = some d → d ∉ o.looksAt ops := by
  rintro d rfl hm
  simp [awayB] at h
  exact h hm
def otherB (x y : Option Nat) : Bool :=
  match x, y with
  | some d, some e => !(Nat.beq d e)
  | _, _ => true
theorem otherB_spec {x y : Option Nat} (h : otherB x y = true) : ∀ d, x = some d → y ≠ some d := by
  rintro d rfl rfl
  simp [otherB] at h
def cutR : List Nat → Nat → Option (List Nat × List Nat)
  | [], _ => none
  | j :: r, i => bif Nat.beq j i then some ([], r) else (match cutR r i with
    | none => none
    | some (a, b) => some (j :: a, b))
theorem cutR_spec : ∀ (T : List (Nat × Value)) (i : Nat) (a b : List Nat), cutR (T.map (·.1)) i = some (a, b) → ∃ A v B, T = A ++ (i, v) :: B ∧ A.map (·.1) = a ∧ B.map (·.1) = b
  | [], i, a, b, h => by simp [cutR] at h
  | (j, u) :: T, i, a, b, h => by
    simp only [List.map_cons, cutR, cond_eq_ite] at h
    split at h
    · rename_i he
      have := Nat.eq_of_beq_eq_true he
      subst this
      simp only [Option.some.injEq, Prod.mk.injEq] at h
      exact ⟨[], u, T, rfl, h.1, h.2⟩
    · split at h
      · cases h
      · rename_i a' b' hc
        simp only [Option.some.injEq, Prod.mk.injEq] at h
        obtain ⟨A, v, B, e, h1, h2⟩ := cutR_spec T i a' b' hc
        exact ⟨(j, u) :: A, v, B, by rw [e]; rfl, by rw [← h.1, ← h1]; rfl, by rw [h2]; exact h.2⟩
def atO (ops : Array Oper) (i : Nat) (k : Oper → Bool) : Bool :=
  match ops[i]? with
  | none => false
  | some o => o.guard.isNone && k o
theorem atO_spec {i : Nat} {k : Oper → Bool} (h : atO ops i k = true) : ∃ o, ops[i]? = some o ∧ o.guard = none ∧ k o = true := by
  unfold atO at h
  split at h
  · cases h
  · rename_i o ho
    simp only [Bool.and_eq_true, Option.isNone_iff_eq_none] at h
    exact ⟨o, ho, h.1, h.2⟩
def panB (ops : Array Oper) (p : Nat) : Nat → List Nat → Array Bool → Bool
  | 0, _, _ => false
  | f + 1, R, listed => !(Region.ready .any ops listed).isEmpty && (Region.ready .any ops listed).all fun i => atO ops i fun o =>
      bif Nat.beq i p then R.all fun j => atO ops j fun q => awayB ops q.dst o
      else (match cutR R i with
        | none => false
        | some (a, b) => (a.all fun j => atO ops j fun q => awayB ops q.dst o && awayB ops o.dst q && otherB q.dst o.dst) && panB ops p f (a ++ b) (listed.setIfInBounds i true))
/-- one read behind the other -/
def Ch (P : Program) (ops : Array Oper) (L : List HP) (N : Env → Prop) : List (Nat × Value) → Env → Prop
  | [], l => N l
  | iv :: T, l => ∃ o, ops[iv.1]? = some o ∧ Step P o l L (Is iv.2 L) noX ∧ Ch P ops L N T (put l o.dst iv.2)
theorem ch_pull {L : List HP} {N : Env → Prop} (hsel : ∀ (j : Nat) (o : Oper) cs b, ops[j]? = some o → o.op ≠ .select cs b) {i : Nat} {v : Value} {o : Oper} (ho : ops[i]? = some o) {B : List (Nat × Value)} :
    ∀ (A : List (Nat × Value)) (l : Env), Ch P ops L N (A ++ (i, v) :: B) l → (∀ j ∈ A.map (·.1), atO ops j (fun q => awayB ops q.dst o && awayB ops o.dst q && otherB q.dst o.dst) = true) →
      Step P o l L (Is v L) noX ∧ Ch P ops L N (A ++ B) (put l o.dst v)
  | [], l, h, _ => by
    obtain ⟨o', ho', h1, h2⟩ := h
    rw [ho] at ho'
    cases ho'
    exact ⟨h1, h2⟩
  | (j, u) :: A, l, h, hA => by
    obtain ⟨oj, hoj, h1, h2⟩ := h
    dsimp only at hoj h1 h2
    obtain ⟨q, hq, _, hk⟩ := atO_spec (hA j (by simp))
    rw [hoj] at hq
    cases hq
    simp only [Bool.and_eq_true] at hk
    obtain ⟨i1, i2⟩ := ch_pull hsel ho A _ h2 (fun k hk => hA k (by simp at hk ⊢; exact .inr hk))
    have e1 := exec_put (hsel i o · · ho) (l := l) (v := u) (awayB_spec hk.1.1)
    have e2 := exec_put (hsel j oj · · hoj) (l := l) (v := v) (awayB_spec hk.1.2)
    refine ⟨step_env e1.symm i1, oj, hoj, step_env e2 h1, ?_⟩
    rw [put_comm (fun d hd hd' => otherB_spec hk.2 d hd' hd)]
    exact i2
theorem ch_end {L : List HP} {X : List PanicEntry → List HP → Prop} (hsel : ∀ (j : Nat) (o : Oper) cs b, ops[j]? = some o → o.op ≠ .select cs b) {p : Nat} {o : Oper} (ho : ops[p]? = some o) :
    ∀ (T : List (Nat × Value)) (l : Env), Ch P ops L (fun l => Step P o l L (fun _ _ => False) X) T l → (∀ j ∈ T.map (·.1), atO ops j (fun q => awayB ops q.dst o) = true) → Step P o l L (fun _ _ => False) X
  | [], l, h, _ => h
  | (j, u) :: T, l, h, hA => by
    obtain ⟨oj, hoj, h1, h2⟩ := h
    dsimp only at hoj h1 h2
    obtain ⟨q, hq, _, hk⟩ := atO_spec (hA j (by simp))
    rw [hoj] at hq
    cases hq
    have i1 := ch_end hsel ho T _ h2 (fun k hk => hA k (by simp at hk ⊢; exact .inr hk))
    exact step_env (exec_put (hsel p o · · ho) (l := l) (v := u) (awayB_spec hk)).symm i1
theorem wanted_none {o : Oper} {f : Nat → Option Bool} (h : o.guard = none) : Region.wanted o f = true := by simp [Region.wanted, h]
theorem pan_any {L : List HP} {Q : Post} {X : List PanicEntry → List HP → Prop} (hsel : ∀ (j : Nat) (o : Oper) cs b, ops[j]? = some o → o.op ≠ .select cs b) {p : Nat} {op : Oper} (hp : ops[p]? = some op) (hX : ∀ ch l' L', X ch L' → Q (.panic ch) l' L') :
    ∀ (f : Nat) (T : List (Nat × Value)) (listed : Array Bool) (l : Env), panB ops p f (T.map (·.1)) listed = true → Ch P ops L (fun l => Step P op l L (fun _ _ => False) X) T l → ∀ w, Sat w L →
      wpAny P .any ops (lift D Q) f listed ⟨l.toArray, D⟩ w
  | 0, T, listed, l, hB, _, w, _ => by simp [panB] at hB
  | f + 1, T, listed, l, hB, hC, w, s => by
    simp only [panB, Bool.and_eq_true, Bool.not_eq_true', List.all_eq_true] at hB
    refine ⟨fun h0 => (by rw [h0] at hB; simp at hB), fun i hi => ?_⟩
    obtain ⟨o, ho, hg, hk⟩ := atO_spec (hB.2 i hi)
    unfold wpOp
    rw [ho]
    simp only
    rw [if_pos (wanted_none hg)]
    refine .inl ?_
    simp only [cond_eq_ite] at hk
    split at hk
    · rename_i he
      have := Nat.eq_of_beq_eq_true he
      subst this
      rw [hp] at ho
      cases ho
      have st := ch_end hsel hp T l hC (fun j hj => List.all_eq_true.1 hk j hj)
      have st2 : Step P op l L (fun _ _ => False) (fun ch L' => Q (.panic ch) l L') := step_map st (fun _ h => h) (fun v L w s (h : False) => h.elim) (fun ch L' w s h => ⟨L', s, hX ch l L' h⟩)
      exact step_op st2 s fun v' L' w' s' h => h.elim
    · split at hk
      · cases hk
      · rename_i a b hc
        simp only [Bool.and_eq_true, List.all_eq_true] at hk
        obtain ⟨A, v, B, e, h1, h2⟩ := cutR_spec T i a b hc
        subst e
        obtain ⟨st, hn⟩ := ch_pull hsel ho A l hC (fun j hj => hk.1 j (h1 ▸ hj))
        refine step_op (step_map st (fun _ h => h) (fun v L w s h => ⟨L, s, h⟩) (fun _ _ _ _ h => h.elim)) s fun v' L' w' s' h => ?_
        rw [h.v]
        exact pan_any hsel hp hX f (A ++ B) _ _ (by rw [List.map_append, h1, h2]; exact hk.2) hn w' (h.l w' s')
theorem ch_of (hτ : TysOk P τ) {all : List Oper} {N : Env → List HP → Prop} {L : List HP} : ∀ (σ : List (Nat × Nat)) (l : Env), (σ.all fun q => Nat.ble q.2 1 && atO all.toArray q.1 fun _ => true) = true → wpD P τ all N σ l L →
    ∃ T : List (Nat × Value), T.map (·.1) = σ.map (·.1) ∧ Ch P all.toArray L (fun l => N l L) T l
  | [], l, _, h => ⟨[], rfl, h⟩
  | q :: r, l, hB, h => by
    simp only [List.all_cons, Bool.and_eq_true] at hB
    obtain ⟨o', ho', hg, _⟩ := atO_spec hB.1.2
    rw [wpD_cons] at h
    obtain ⟨o, ho, h⟩ := nthO_spec h
    have ho2 : all.toArray[q.1]? = some o := by simpa using ho
    have eo : o = o' := Option.some.inj (ho2.symm.trans ho')
    subst eo
    have hle := hB.1.1
    rw [Nat.ble_eq] at hle
    rcases grd_spec (g := o.guard) rfl h with ⟨hw, h⟩ | ⟨hw, h⟩
    · rcases (show q.2 = 0 ∨ q.2 = 1 by omega) with h0 | h0
      · rw [h0] at h
        rcases pure_val hτ h with ⟨v, hv, hk⟩ | ⟨s, _, hf⟩
        · rw [putK_eq] at hk
          obtain ⟨T, e, hT⟩ := ch_of hτ r _ hB.2 hk
          exact ⟨(q.1, v) :: T, by simp [e], o, ho2, step_val (K := Is v L) v hv ⟨rfl, Ent.rfl⟩, hT⟩
        · exact hf.elim
      · rw [h0] at h
        obtain ⟨v, hv, hk⟩ := read_spec hτ h
        rw [putK_eq] at hk
        obtain ⟨T, e, hT⟩ := ch_of hτ r _ hB.2 hk
        exact ⟨(q.1, v) :: T, by simp [e], o, ho2, hv [], hT⟩
    · rw [wanted_none hg] at hw
      cases hw
def panC (P : Program) (τ : Tys) (all : List Oper) (p : Nat) (X : List PanicEntry → List HP → Prop) (l : Env) (L : List HP) : Prop := nthO all p fun o => opC P τ o l L (fun _ _ => False) X
/-- a region that draws, walked in the order σ (of reads) up to the operation that panics -/
theorem Dr.pan {id : Nat} {ops : Array Oper} {Q : Post} {l : Env} {L : List HP} (hτ : TysOk P τ) (hm : P.follows .mixedOrders = true) (σ : List (Nat × Nat)) (p : Nat) (X : List PanicEntry → List HP → Prop)
    (hB : (Region.noSelect ops && (σ.all fun q => Nat.ble q.2 1 && atO ops q.1 fun _ => true) && panB ops p ops.size (σ.map (·.1)) (Array.replicate ops.size false)) = true)
    (h : wpD P τ ops.toList (panC P τ ops.toList p X) σ l L) (hX : ∀ ch l' L', X ch L' → Q (.panic ch) l' L') : Dr P D id ops Q l L := by
  refine ⟨fun w s => wp_region_any hm ?_⟩
  simp only [Bool.and_eq_true] at hB
  have hsel := Region.noSelect_spec hB.1.1
  obtain ⟨T, e, hT⟩ := ch_of hτ (all := ops.toList) σ l (by simpa using hB.1.2) h
  have hTp : ∃ op, ops[p]? = some op ∧ Ch P ops L (fun l => Step P op l L (fun _ _ => False) X) T l := by
    clear e hB
    have hT : Ch P ops L (fun l => panC P τ ops.toList p X l L) T l := by simpa using hT
    have key : ∀ (T : List (Nat × Value)) (l : Env), Ch P ops L (fun l => panC P τ ops.toList p X l L) T l → ∃ op, ops[p]? = some op ∧ Ch P ops L (fun l => Step P op l L (fun _ _ => False) X) T l := by
      intro T
      induction T with
      | nil =>
        intro l h
        obtain ⟨o, ho, hk⟩ := nthO_spec h
        exact ⟨o, by simpa using ho, opC_step hτ hk⟩
      | cons iv T ih =>
        intro l ⟨o, ho, h1, h2⟩
        obtain ⟨op, hop, h3⟩ := ih _ h2
        exact ⟨op, hop, o, ho, h1, h3⟩
    exact key T l hT
  obtain ⟨op, hop, hC⟩ := hTp
  have s' : Sat { w with drawn := w.drawn + 1 } L := s.heap rfl rfl
  exact pan_any (D := D) hsel hop hX ops.size T _ l (by rw [e]; exact hB.2) hC _ s'
end Go.Eng
