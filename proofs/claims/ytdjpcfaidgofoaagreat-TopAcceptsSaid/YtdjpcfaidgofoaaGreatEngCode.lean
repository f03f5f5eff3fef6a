/- Whole code over assertions. -/
import Derived.Test.YtdjpcfaidgofoaaGreatEngSound
set_option linter.all false
namespace Go.Eng

abbrev Post := Exit → Env → List HP → Prop

/-- operations in the order of the text -/
def grdK (all : List Oper) (g : Option (Nat × Bool)) (l : Env) (T F : Env → Prop) : Prop :=
  match g with
  | none => T l
  | some (j, want) => (match (all[j]?).bind (·.dst) with
    | none => F l
    | some d => nthK l d fun v => (match v with
      | .bool b => Br b (setK l d (.bool true) fun l => bif want then T l else F l) (setK l d (.bool false) fun l => bif want then F l else T l)
      | .tuple _ => F l
      | _ => False))

/-- (by the recursor itself: so that what Lean reckons and what the kernel reckons are the same terms) -/
def wpO (P : Program) (τ : Tys) (all : List Oper) (Q : Post) (ops : List Oper) : Env → List HP → Prop :=
  List.rec (motive := fun _ => Env → List HP → Prop) (fun l L => Q .normal l L)
    (fun o _ ih l L => grdK all o.guard l
      (fun l => opC P τ o l L (fun v L' => putK l o.dst v fun l' => ih l' L') (fun ch L' => Q (.panic ch) l L'))
      (fun l => putK l o.dst undef fun l' => ih l' L)) ops
theorem wpO_cons {P : Program} {τ : Tys} {all : List Oper} {Q : Post} {o : Oper} {r : List Oper} {l : Env} {L : List HP} :
    wpO P τ all Q (o :: r) l L = grdK all o.guard l
      (fun l => opC P τ o l L (fun v L' => putK l o.dst v fun l' => wpO P τ all Q r l' L') (fun ch L' => Q (.panic ch) l L'))
      (fun l => putK l o.dst undef fun l' => wpO P τ all Q r l' L) := rfl

/-- the model's code under an assertion -/
def lift (D : List Deferred) (Q : Post) : Exit → Act → World → Prop := fun e a w => ∃ l L, a = ⟨l.toArray, D⟩ ∧ Sat w L ∧ Q e l L
def WP (P : Program) (D : List Deferred) (c : Code) (Q : Post) (l : Env) (L : List HP) : Prop :=
  ∀ w, Sat w L → c.wp P (lift D Q) ⟨l.toArray, D⟩ w

/-- the slots that code writes -/
def dsts : List Oper → List Nat
  | [] => []
  | o :: r => match o.dst with
    | some d => d :: dsts r
    | none => dsts r
def wset : Code → List Nat
  | .region _ ops _ => dsts ops.toList
  | .seq a b => wset a ++ wset b
  | .cond _ a b => wset a ++ wset b
  | .block _ c => wset c
  | .loop c => wset c
  | .scope c => wset c
  | _ => []
def memN (n : Nat) : List Nat → Bool
  | [] => false
  | m :: ms => Nat.beq n m || memN n ms
/-- without doubles, and without those that were seen, reckoned strictly -/
def dedupK : List Nat → List Nat → (List Nat → Prop) → Prop
  | [], _, k => k []
  | n :: ns, seen, k => bif memN n seen then dedupK ns seen k else dedupK ns (n :: seen) fun r => k (n :: r)
theorem dedupK_ex : ∀ (ns seen : List Nat) (k : List Nat → Prop), dedupK ns seen k → ∃ r, k r
  | [], _, _, h => ⟨[], h⟩
  | n :: ns, seen, k, h => by
    simp only [dedupK, cond_eq_ite] at h
    split at h
    · exact dedupK_ex ns seen k h
    · obtain ⟨r, hr⟩ := dedupK_ex ns (n :: seen) _ h; exact ⟨_, hr⟩
structure Lp (P : Program) (D : List Deferred) (c : Code) (_ws : List Nat) (Q : Post) (l : Env) (L : List HP) : Prop where
  go : WP P D (.loop c) Q l L
structure Sc (P : Program) (D : List Deferred) (c : Code) (_ws : List Nat) (Q : Post) (l : Env) (L : List HP) : Prop where
  go : WP P D (.scope c) Q l L
structure Dr (P : Program) (D : List Deferred) (id : Nat) (ops : Array Oper) (Q : Post) (l : Env) (L : List HP) : Prop where
  go : WP P D (.region id ops true) Q l L
structure Rf (P : Program) (D : List Deferred) (c : Code) (Q : Post) (l : Env) (L : List HP) : Prop where
  go : WP P D c Q l L

def thenP (N : Env → List HP → Prop) (Q : Post) : Post := fun e l L =>
  match e with
  | .normal => N l L
  | .exit i => Q (.exit i) l L
  | .goto i => Q (.goto i) l L
  | .ret => Q .ret l L
  | .panic ch => Q (.panic ch) l L
  | .outgrown => Q .outgrown l L
def inB (id : Nat) (Q : Post) : Post := fun e l L =>
  match e with
  | .normal => Q .normal l L
  | .exit i => bif Nat.beq i id then Q .normal l L else Q (.exit i) l L
  | .goto i => Q (.goto i) l L
  | .ret => Q .ret l L
  | .panic ch => Q (.panic ch) l L
  | .outgrown => Q .outgrown l L

def wpC (P : Program) (τ : Tys) (D : List Deferred) (c : Code) : Post → Env → List HP → Prop :=
  Code.rec (motive := fun _ => Post → Env → List HP → Prop)
    (fun Q l L => Q .normal l L)
    (fun id ops draw Q l L => match draw with
      | true => Dr P D id ops Q l L
      | false => wpO P τ ops.toList Q ops.toList l L)
    (fun _ _ iha ihb Q l L => iha (thenP (fun l L => ihb Q l L) Q) l L)
    (fun c _ _ ihx ihy Q l L => evK l c fun v => (match v with
      | .bool b => Br b (ihx Q l L) (ihy Q l L)
      | _ => False))
    (fun id _ ih Q l L => ih (inB id Q) l L)
    (fun c _ Q l L => dedupK (wset c) [] fun ws => Lp P D c ws Q l L)
    (fun f ps a b _ _ Q l L => Rf P D (.rangeFunc f ps a b) Q l L)
    (fun id Q l L => Q (.exit id) l L)
    (fun c _ Q l L => dedupK (wset c) [] fun ws => Sc P D c ws Q l L)
    (fun _ Q l L => Q .normal l L)
    (fun n Q l L => Q (.goto n) l L)
    (fun Q l L => Q .ret l L)
    (fun s Q l L => Rf P D (.refuse s) Q l L) c

variable {P : Program} {τ : Tys} {D : List Deferred}

theorem lift_mono {Q Q' : Post} (h : ∀ e l L, Q e l L → Q' e l L) {e : Exit} {a : Act} {w : World} : lift D Q e a w → lift D Q' e a w := by
  rintro ⟨l, L, ha, s, hq⟩; exact ⟨l, L, ha, s, h _ _ _ hq⟩

theorem step_op {o : Oper} {l : Env} {L : List HP} {Q : Post} {N : Act → World → Prop} {w : World} {K : Value → List HP → Prop}
    (h : Step P o l L K fun ch L' => Q (.panic ch) l L') (s : Sat w L)
    (hk : ∀ v L' w', Sat w' L' → K v L' → N ⟨(put l o.dst v).toArray, D⟩ w') : o.wp P ⟨l.toArray, D⟩ w N (lift D Q) := by
  have h := h w s
  unfold Oper.wp
  rw [eval_evl]
  cases hr : (execOp (evl l) o).run P w with
  | ok n w' =>
    rw [hr] at h
    cases n <;> simp only [stepPost] at h <;> try exact h.elim
    · obtain ⟨L', s', k⟩ := h
      rw [Oper.upon_value, put_put]
      exact hk _ _ _ s' k
    · obtain ⟨L', s', k⟩ := h
      rw [Oper.upon_skip, put_put]
      exact hk _ _ _ s' k
    · rw [Oper.upon_enter]
      refine h.mono fun e w'' => ?_
      cases e with
      | returned v =>
        rintro ⟨L', s', k⟩
        show N _ _
        rw [put_put]
        exact hk _ _ _ s' k
      | panicked ch =>
        rintro ⟨L', s', k⟩
        exact ⟨l, L', rfl, s', k⟩
      | outgrown => exact fun h => h.elim
  | halt x w' =>
    rw [hr] at h
    cases x <;> simp only [stepPost] at h <;> try exact h.elim
    obtain ⟨L', s', k⟩ := h
    exact ⟨l, L', rfl, s', k⟩

theorem grd_spec {all : List Oper} {g : Option (Nat × Bool)} {o : Oper} {l : Env} {T F : Env → Prop} (ho : o.guard = g) (h : grdK all g l T F) :
    (Region.wanted o (yielded all.toArray l.toArray) = true ∧ T l) ∨ (Region.wanted o (yielded all.toArray l.toArray) = false ∧ F l) := by
  subst ho
  unfold grdK at h
  unfold Region.wanted
  split at h
  · rename_i hg; rw [hg]; exact .inl ⟨rfl, h⟩
  · rename_i j want hg
    rw [hg]
    simp only
    have hy : yielded all.toArray l.toArray j = match ((all[j]?).bind (·.dst)).bind (l[·]?) with | some (.bool b) => some b | _ => none := by
      simp [yielded]
      rfl
    rw [hy]
    split at h
    · rename_i hd; rw [hd]; exact .inr ⟨rfl, h⟩
    · rename_i d hd
      rw [hd]
      simp only [nthK_eq, setK_eq] at h
      simp only [Option.bind_some]
      cases hv : l[d]? with
      | none =>
        have : l.getD d undef = undef := by simp [List.getD, hv]
        rw [this] at h
        exact .inr ⟨rfl, h⟩
      | some v =>
        have hgd : l.getD d undef = v := by simp [List.getD, hv]
        rw [hgd] at h
        cases v <;> simp only at h ⊢ <;> try exact h.elim
        case bool b =>
          have hset : l.set d (.bool b) = l := by
            obtain ⟨hlt, he⟩ := List.getElem?_eq_some_iff.1 hv
            rw [← he]
            exact List.set_getElem_self hlt
          cases b with
          | true =>
            have h := h.t rfl
            rw [hset] at h
            cases want with
            | true => exact .inl ⟨rfl, h⟩
            | false => exact .inr ⟨rfl, h⟩
          | false =>
            have h := h.f rfl
            rw [hset] at h
            cases want with
            | true => exact .inr ⟨rfl, h⟩
            | false => exact .inl ⟨rfl, h⟩
        case tuple vs => exact .inr ⟨by cases want <;> rfl, h⟩

theorem wpO_sound (hτ : TysOk P τ) {all : List Oper} {Q : Post} : ∀ (r : List Oper) (l : Env) (L : List HP), wpO P τ all Q r l L →
    ∀ w, Sat w L → wpList P all.toArray (lift D Q) r ⟨l.toArray, D⟩ w
  | [], l, L, h, w, s => ⟨l, L, rfl, s, h⟩
  | o :: r, l, L, h, w, s => by
    rw [wpO_cons] at h
    unfold wpList
    rcases grd_spec (g := o.guard) rfl h with ⟨hw, h⟩ | ⟨hw, h⟩
    · rw [if_pos hw]
      refine .inl (step_op (opC_step hτ h) s fun v L' w' s' k => ?_)
      rw [putK_eq] at k
      exact wpO_sound hτ r _ _ k w' s'
    · rw [if_neg (by rw [hw]; simp)]
      rw [putK_eq] at h
      rw [put_put]
      exact wpO_sound hτ r _ _ h w s

theorem wpC_sound (hτ : TysOk P τ) (c : Code) : ∀ (Q : Post) (l : Env) (L : List HP), wpC P τ D c Q l L → WP P D c Q l L := by
  induction c with
  | skip => intro Q l L h w s; exact wp_skip ⟨l, L, rfl, s, h⟩
  | label n => intro Q l L h w s; exact wp_label ⟨l, L, rfl, s, h⟩
  | seq a b iha ihb =>
    intro Q l L h w s
    refine wp_seq (wp_mono (iha _ _ _ h w s) ?_)
    rintro e a w' ⟨l', L', rfl, s', hq⟩
    cases e with
    | normal => exact ihb _ _ _ hq w' s'
    | exit i => exact ⟨l', L', rfl, s', hq⟩
    | goto i => exact ⟨l', L', rfl, s', hq⟩
    | ret => exact ⟨l', L', rfl, s', hq⟩
    | panic ch => exact ⟨l', L', rfl, s', hq⟩
    | outgrown => exact ⟨l', L', rfl, s', hq⟩
  | cond c x y ihx ihy =>
    intro Q l L h w s
    have h : evK l c (fun v => (match v with | .bool b => Br b (wpC P τ D x Q l L) (wpC P τ D y Q l L) | _ => False)) := h
    rw [evK_eq] at h
    split at h
    · rename_i b hb
      refine wp_cond_split (t := b) (by rw [eval_evl]; exact hb) (fun ht => ihx _ _ _ (h.t ht) w s) (fun hf => ihy _ _ _ (h.f hf) w s)
    · exact h.elim
  | block id c ih =>
    intro Q l L h w s
    refine wp_block (wp_mono (ih _ _ _ h w s) ?_)
    rintro e a w' ⟨l', L', rfl, s', hq⟩
    cases e with
    | normal => exact ⟨l', L', rfl, s', hq⟩
    | exit i =>
      simp only [inB, cond_eq_ite] at hq
      simp only [Exit.inBlock]
      split at hq
      · rename_i he
        rw [if_pos (Nat.eq_of_beq_eq_true he)]
        exact ⟨l', L', rfl, s', hq⟩
      · rename_i he
        rw [if_neg (fun h => he (by rw [h]; exact Nat.beq_refl id))]
        exact ⟨l', L', rfl, s', hq⟩
    | goto i => exact ⟨l', L', rfl, s', hq⟩
    | ret => exact ⟨l', L', rfl, s', hq⟩
    | panic ch => exact ⟨l', L', rfl, s', hq⟩
    | outgrown => exact ⟨l', L', rfl, s', hq⟩
  | loop c => intro Q l L h; obtain ⟨ws, h⟩ := dedupK_ex (wset c) [] (fun ws => Lp P D c ws Q l L) h; exact Lp.go h
  | scope c => intro Q l L h; obtain ⟨ws, h⟩ := dedupK_ex (wset c) [] (fun ws => Sc P D c ws Q l L) h; exact Sc.go h
  | exit id => intro Q l L h w s; exact wp_exit ⟨l, L, rfl, s, h⟩
  | goto n => intro Q l L h w s; exact wp_goto ⟨l, L, rfl, s, h⟩
  | ret => intro Q l L h w s; exact wp_ret ⟨l, L, rfl, s, h⟩
  | region id ops draw =>
    intro Q l L h
    cases draw with
    | true => exact Dr.go h
    | false =>
      intro w s
      exact wp_region_list (by simpa using wpO_sound hτ (D := D) _ _ _ h w s)
  | rangeFunc f ps a b => intro Q l L h; exact Rf.go h
  | refuse why => intro Q l L h; exact Rf.go h

/-! entering a function -/
def resK (_P : Program) (τ : Tys) (rs : List ResultVar) (l : Env) (L : List HP) : (List Value → Prop) → Prop :=
  List.rec (motive := fun _ => (List Value → Prop) → Prop) (fun k => k [])
    (fun r _ ih k => match r with
      | .tmp t => nthK l t fun v => ih fun vs => k (v :: vs)
      | .cell a t => tyK τ t fun i => nthK l a fun va => (match va with
        | .pointer (some a) => bif aggD i.d then LdN L a i.size (fun vs => ih fun us => k (.agg vs.toArray :: us)) else Ld L a (fun v => ih fun us => k (v :: us))
        | _ => False)) rs
def endK (P : Program) (τ : Tys) (fn : Func) (R : Value → List HP → Prop) (l : Env) (L : List HP) : Prop :=
  resK P τ fn.results.toList l L fun vs => (match vs with
    | [v] => R v L
    | vs => R (.tuple vs.toArray) L)
def bodyQ (P : Program) (τ : Tys) (fn : Func) (R : Value → List HP → Prop) (X : List PanicEntry → List HP → Prop) : Post := fun e l L =>
  match e with
  | .normal => endK P τ fn R l L
  | .ret => endK P τ fn R l L
  | .panic ch => X ch L
  | _ => False

theorem loadVar_one {t : TypeId} {i : TyI} (hi : TyOk P t i) {a : Addr} {w : World} {v : Value} (hg : aggD i.d = false) (h : w.cell? a = some v) : (loadVar t a).run P w = .ok v w := by
  simp only [loadVar, Sem.run_bind, aggOf hi, hg, Result.andThen_ok, Bool.false_eq_true, if_false, run_load, h]
theorem loadVar_many {t : TypeId} {i : TyI} (hi : TyOk P t i) {a : Addr} {w : World} {vs : List Value} (hg : aggD i.d = true) (hl : vs.length = i.size)
    (h : ∀ j u, vs[j]? = some u → w.cell? (a.add j) = some u) : (loadVar t a).run P w = .ok (.agg vs.toArray) w := by
  have := run_loadCells (P := P) vs h
  rw [hl] at this
  simp only [loadVar, Sem.run_bind, aggOf hi, hg, Result.andThen_ok, if_true, szOf hi, this, Sem.run_pure]

theorem run_asAddr {a : Addr} {w : World} : (asAddr (.pointer (some a))).run P w = .ok a w := rfl
def resOne (l : Env) : ResultVar → Sem Value
  | .tmp t => pure (l.toArray.getD t undef)
  | .cell a t => do loadVar t (← asAddr (l.toArray.getD a undef))
theorem res_spec (hτ : TysOk P τ) {l : Env} {L : List HP} : ∀ (rs : List ResultVar) (k : List Value → Prop), resK P τ rs l L k →
    ∃ vs, (∀ w, Sat w L → (rs.mapM (m := Sem) (resOne l)).run P w = .ok vs w) ∧ k vs
  | [], k, h => ⟨[], fun w _ => by simp, h⟩
  | .tmp t :: rs, k, h => by
    have h : nthK l t (fun v => resK P τ rs l L fun vs => k (v :: vs)) := h
    rw [nthK_eq] at h
    obtain ⟨vs, hvs, hk⟩ := res_spec hτ rs _ h
    refine ⟨_, fun w s => ?_, hk⟩
    rw [List.mapM_cons]
    simp only [Sem.run_bind, resOne, Sem.run_pure, Result.andThen_ok, hvs w s]
    simp
  | .cell a t :: rs, k, h => by
    have h : tyK τ t (fun i => nthK l a fun va => (match va with
        | .pointer (some a) => bif aggD i.d then LdN L a i.size (fun vs => resK P τ rs l L fun us => k (.agg vs.toArray :: us)) else Ld L a (fun v => resK P τ rs l L fun us => k (v :: us))
        | _ => False)) := h
    obtain ⟨i, hi, h⟩ := tyK_spec h
    have hi := hτ _ _ hi
    rw [nthK_eq] at h
    split at h
    · rename_i ad hv
      cases hg : aggD i.d with
      | true =>
        rw [hg] at h
        obtain ⟨us, hl, hc, h⟩ := LdN.go h
        obtain ⟨vs, hvs, hk⟩ := res_spec hτ rs _ h
        refine ⟨_, fun w s => ?_, hk⟩
        rw [List.mapM_cons]
        have hv' : l.toArray.getD a undef = .pointer (some ad) := by simpa using hv
        simp only [Sem.run_bind, resOne, Sem.run_pure, Result.andThen_ok, hv', run_asAddr, loadVar_many hi hg hl (hc w s), hvs w s]
      | false =>
        rw [hg] at h
        obtain ⟨u, hc, h⟩ := Ld.go h
        obtain ⟨vs, hvs, hk⟩ := res_spec hτ rs _ h
        refine ⟨_, fun w s => ?_, hk⟩
        rw [List.mapM_cons]
        have hv' : l.toArray.getD a undef = .pointer (some ad) := by simpa using hv
        simp only [Sem.run_bind, resOne, Sem.run_pure, Result.andThen_ok, hv', run_asAddr, loadVar_one hi hg (hc w s), hvs w s]
    · exact h.elim

theorem end_spec (hτ : TysOk P τ) {fn : Func} {R : Value → List HP → Prop} {l : Env} {L : List HP} (h : endK P τ fn R l L) {w : World} (s : Sat w L) :
    ∃ v, (results fn l.toArray).run P w = .ok v w ∧ R v L := by
  unfold endK at h
  obtain ⟨vs, hvs, hk⟩ := res_spec hτ _ _ h
  have hm := hvs w s
  refine ⟨if hs : vs.length = 1 then vs[0] else .tuple vs.toArray, ?_, ?_⟩
  · have e : results fn l.toArray = (do let vs ← fn.results.mapM (resOne l); pure (if h : vs.size = 1 then vs[0] else .tuple vs)) := rfl
    rw [e, Array.mapM_eq_mapM_toList]
    simp only [Sem.run_bind, Sem.run_map]
    rw [hm]
    simp
  · split at hk
    · exact hk
    · rename_i hne
      rw [dif_neg]
      · exact hk
      · intro hs
        obtain ⟨v, rfl⟩ := List.length_eq_one_iff.1 hs
        exact hne v rfl

theorem con_of (hτ : TysOk P τ) {f : FuncId} {fn : Func} {c : Code} {args : List Value} {L : List HP} {R : Value → List HP → Prop} {X : List PanicEntry → List HP → Prop}
    (hf : P.funcs[f]? = some fn) (hb : fn.body = some c) (hn : (fn.name == "runtime.NumGoroutine") = false)
    (h : wpC P τ [] c (bodyQ P τ fn R X) (args ++ List.replicate (fn.ntmps - args.length) undef) L) : Con P f args L R X := by
  refine ⟨⟨fn, hf, hn, by rw [hb]; rfl⟩, fun w s => calls_of_wp hf hb ?_⟩
  have := wpC_sound hτ c _ _ _ h w s
  have he : args.toArray ++ Array.replicate (fn.ntmps - args.toArray.size) undef = (args ++ List.replicate (fn.ntmps - args.length) undef).toArray := by
    apply Array.ext'; simp
  rw [he]
  refine wp_mono this ?_
  rintro e a w' ⟨l, L', rfl, s', hq⟩
  cases e with
  | normal =>
    obtain ⟨v, hr, hR⟩ := end_spec hτ hq s'
    exact ⟨rfl, v, hr, L', s', hR⟩
  | ret =>
    obtain ⟨v, hr, hR⟩ := end_spec hτ hq s'
    exact ⟨rfl, v, hr, L', s', hR⟩
  | panic ch => exact ⟨rfl, L', s', hq⟩
  | exit i => exact hq
  | goto i => exact hq
  | outgrown => exact hq
end Go.Eng
