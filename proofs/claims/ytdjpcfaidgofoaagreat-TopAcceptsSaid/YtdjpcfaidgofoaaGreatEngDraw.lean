/- A region that draws its order: in whatever order, what the text's order gives. -/
import Derived.Test.YtdjpcfaidgofoaaGreatEngRules
import Derived.Orders
import Derived.Still
import Derived.StillTail
set_option linter.all false
namespace Go.Eng
set_option linter.unusedVariables false
variable {P : Program} {τ : Tys} {D : List Deferred} {ops : Array Oper} {cls : Nat → Nat}

theorem put_comm {l : Env} {x y : Option Nat} {v u : Value} (h : ∀ d, x = some d → y ≠ some d) : put (put l x v) y u = put (put l y u) x v := by
  cases x with
  | none => rfl
  | some d => cases y with
    | none => rfl
    | some e => simp only [put]; exact List.set_comm _ _ (fun he => h d rfl (by rw [he]))
theorem exec_put {o : Oper} (hs : ∀ cs b, o.op ≠ .select cs b) {l : Env} {dst : Option Nat} {v : Value} (h : ∀ d, dst = some d → d ∉ o.looksAt ops) :
    execOp (evl (put l dst v)) o = execOp (evl l) o := by
  have := execOp_put (ops := ops) o hs ⟨l.toArray, []⟩ dst v h
  rw [put_put, eval_evl, eval_evl] at this
  exact this
theorem want_put {o : Oper} {l : Env} {dst : Option Nat} {v : Value} (h : ∀ d, dst = some d → d ∉ o.looksAt ops) :
    Region.wanted o (yielded ops (put l dst v).toArray) = Region.wanted o (yielded ops l.toArray) := by
  have := wanted_put (ops := ops) o ⟨l.toArray, []⟩ dst v h
  rw [put_put] at this
  exact this

theorem stepPost_map {K K' : Value → List HP → Prop} {X X' : List PanicEntry → List HP → Prop} {r : Result Next}
    (h : stepPost P K X r) (hk : ∀ v L w, Sat w L → K v L → ∃ L', Sat w L' ∧ K' v L') (hx : ∀ v L w, Sat w L → X v L → ∃ L', Sat w L' ∧ X' v L') : stepPost P K' X' r := by
  cases r with
  | ok n w =>
    cases n <;> simp only [stepPost] at h ⊢ <;> try exact h.elim
    · obtain ⟨L, s, k⟩ := h; exact hk _ _ _ s k
    · obtain ⟨L, s, k⟩ := h; exact hk _ _ _ s k
    · refine h.mono fun e w' => ?_
      cases e with
      | returned v => rintro ⟨L, s, k⟩; exact hk _ _ _ s k
      | panicked ch => rintro ⟨L, s, k⟩; exact hx _ _ _ s k
      | outgrown => exact id
  | halt x w =>
    cases x <;> simp only [stepPost] at h ⊢ <;> try exact h.elim
    obtain ⟨L, s, k⟩ := h; exact hx _ _ _ s k
theorem step_map {o : Oper} {l : Env} {L L2 : List HP} {K K' : Value → List HP → Prop} {X X' : List PanicEntry → List HP → Prop} (h : Step P o l L K X) (hs : ∀ w, Sat w L2 → Sat w L)
    (hk : ∀ v L w, Sat w L → K v L → ∃ L', Sat w L' ∧ K' v L') (hx : ∀ v L w, Sat w L → X v L → ∃ L', Sat w L' ∧ X' v L') : Step P o l L2 K' X' :=
  fun w s => stepPost_map (h w (hs w s)) hk hx
theorem step_env {o : Oper} {l l' : Env} {L : List HP} {K : Value → List HP → Prop} {X : List PanicEntry → List HP → Prop} (he : execOp (evl l') o = execOp (evl l) o) (h : Step P o l L K X) : Step P o l' L K X := by
  unfold Step at *; rw [he]; exact h

def noX : List PanicEntry → List HP → Prop := fun _ _ => False
/-- one operation, by its class: 0 looks at no memory; 1 only reads; 2 lays a new row; 4 reads, and lays more; else whatever -/
def opA (P : Program) (ops : Array Oper) (cls : Nat → Nat) (i : Nat) (K : Env → List HP → Prop) (l : Env) (L : List HP) : Prop :=
  match ops[i]? with
  | none => K l L
  | some o => if Region.wanted o (yielded ops l.toArray) = true then
      (match cls i with
      | 0 => ∃ v, (∀ w, (execOp (evl l) o).run P w = .ok (.value v) w) ∧ K (put l o.dst v) L
      | 1 => ∃ v, (∀ M, Step P o l (M ++ L) (Is v (M ++ L)) noX) ∧ K (put l o.dst v) L
      | 2 => ∃ (s : Nat → Value) (t : TypeId) (cs : List Value), (∀ w, (execOp (evl l) o).run P w = .ok (.value (s w.heap.size)) (w.alloc (.cells cs.toArray t))) ∧
          ∀ b, K (put l o.dst (s b)) (ptc b t cs :: L)
      | 4 => ∃ R : Value → List HP → Prop, (∀ M, Step P o l (M ++ L) (fun v L' => ∃ N, R v N ∧ Ent L' (M ++ (N ++ L))) noX) ∧ ∀ v N, R v N → K (put l o.dst v) (N ++ L)
      | _ => Step P o l L (fun v L' => K (put l o.dst v) L') noX)
    else K (put l o.dst undef) L

def AnyA (P : Program) (ops : Array Oper) (cls : Nat → Nat) (N : Env → List HP → Prop) : Nat → Array Bool → Env → List HP → Prop
  | 0, listed, l, L => Region.ready .any ops listed = [] ∧ ∃ L', L.Perm L' ∧ N l L'
  | f + 1, listed, l, L => (Region.ready .any ops listed = [] → ∃ L', L.Perm L' ∧ N l L') ∧
      ∀ i ∈ Region.ready .any ops listed, opA P ops cls i (AnyA P ops cls N f (listed.setIfInBounds i true)) l L

theorem opA_mono {i : Nat} {K K' : Env → List HP → Prop} {l : Env} {L L2 : List HP} (hp : L.Perm L2) (hk : ∀ l L L2, L.Perm L2 → K l L → K' l L2) (h : opA P ops cls i K l L) : opA P ops cls i K' l L2 := by
  unfold opA at *
  split at h
  · exact hk _ _ _ hp h
  · rename_i o ho
    split at h
    · rename_i hw
      rw [if_pos hw]
      split at h
      · obtain ⟨v, hv, k⟩ := h; exact ⟨v, hv, hk _ _ _ hp k⟩
      · obtain ⟨v, hv, k⟩ := h
        refine ⟨v, fun M => step_map (hv M) (fun w s => s.perm ((hp.symm).append_left M)) (fun v' L' w s hi => ?_) (fun _ _ _ _ h => h.elim), hk _ _ _ hp k⟩
        exact ⟨M ++ L2, (hi.l w s).perm (hp.append_left M), ⟨hi.v, Ent.rfl⟩⟩
      · obtain ⟨s, t, cs, hr, k⟩ := h; exact ⟨s, t, cs, hr, fun b => hk _ _ _ (hp.cons _) (k b)⟩
      · obtain ⟨R, hR, k⟩ := h
        refine ⟨R, fun M => step_map (hR M) (fun w s => s.perm ((hp.symm).append_left M)) (fun v' L' w s hi => ?_) (fun _ _ _ _ h => h.elim), fun v N r => hk _ _ _ (hp.append_left N) (k v N r)⟩
        obtain ⟨N, r, e⟩ := hi
        exact ⟨L', s, N, r, e.trans (Ent.perm ((hp.append_left N).append_left M))⟩
      · exact step_map h (fun w s => s.perm hp.symm) (fun v L' w s k => ⟨L', s, hk _ _ _ (.refl _) k⟩) (fun _ _ _ _ h => h.elim)
    · rename_i hw
      rw [if_neg hw]
      exact hk _ _ _ hp h
theorem anyA_perm {N : Env → List HP → Prop} : ∀ (f : Nat) (listed : Array Bool) (l : Env) (L L2 : List HP), L.Perm L2 → AnyA P ops cls N f listed l L → AnyA P ops cls N f listed l L2
  | 0, listed, l, L, L2, hp, h => ⟨h.1, let ⟨L', p, n⟩ := h.2; ⟨L', hp.symm.trans p, n⟩⟩
  | f + 1, listed, l, L, L2, hp, h => ⟨fun h0 => let ⟨L', p, n⟩ := h.1 h0; ⟨L', hp.symm.trans p, n⟩, fun i hi =>
      opA_mono hp (fun l L L2 hp h => anyA_perm f _ l L L2 hp h) (h.2 i hi)⟩

theorem anyA_sound {Q : Post} : ∀ (f : Nat) (listed : Array Bool) (l : Env) (L : List HP), AnyA P ops cls (Q .normal) f listed l L → ∀ w, Sat w L →
    wpAny P .any ops (lift D Q) f listed ⟨l.toArray, D⟩ w
  | 0, listed, l, L, h, w, s => ⟨h.1, let ⟨L', p, n⟩ := h.2; ⟨l, L', rfl, s.perm p, n⟩⟩
  | f + 1, listed, l, L, h, w, s => ⟨fun h0 => let ⟨L', p, n⟩ := h.1 h0; ⟨l, L', rfl, s.perm p, n⟩, fun i hi => by
      have h := h.2 i hi
      unfold opA at h
      unfold wpOp
      split at h
      · rename_i ho; rw [ho]; exact anyA_sound f _ _ _ h w s
      · rename_i o ho
        rw [ho]
        simp only
        split at h
        · rename_i hw
          rw [if_pos hw]
          refine .inl ?_
          split at h
          · obtain ⟨v, hv, k⟩ := h
            exact step_op (step_val (K := fun v' L' => v' = v ∧ L' = L) v hv ⟨rfl, rfl⟩) s fun v' L' w' s' ⟨h1, h2⟩ => by
              subst h1; subst h2; exact anyA_sound f _ _ _ k w' s'
          · obtain ⟨v, hv, k⟩ := h
            exact step_op (step_map (hv []) (fun _ h => h) (fun v L w s h => ⟨L, s, h⟩) (fun _ _ _ _ h => h.elim)) s fun v' L' w' s' hi => by
              rw [hi.v]; exact anyA_sound f _ _ _ k w' (hi.l w' s')
          · obtain ⟨sv, t, cs, hr, k⟩ := h
            have st : Step P o l L (fun v' L' => ∃ b, v' = sv b ∧ L' = ptc b t cs :: L) (fun ch L' => Q (.panic ch) l L') := fun w s => by
              rw [hr]; exact ⟨_, s.alloc _, w.heap.size, rfl, rfl⟩
            exact step_op st s fun v' L' w' s' ⟨b, h1, h2⟩ => by
              subst h1; subst h2; exact anyA_sound f _ _ _ (k b) w' s'
          · obtain ⟨R, hR, k⟩ := h
            exact step_op (step_map (hR []) (fun _ h => h) (fun v L w s h => ⟨L, s, h⟩) (fun _ _ _ _ h => h.elim)) s fun v' L' w' s' ⟨N, r, e⟩ =>
              anyA_sound f _ _ _ (k v' N r) w' (e w' s')
          · exact step_op (step_map h (fun _ h => h) (fun v L w s h => ⟨L, s, h⟩) (fun _ _ _ _ h => h.elim)) s fun v' L' w' s' k => anyA_sound f _ _ _ k w' s'
        · rename_i hw
          rw [if_neg hw, put_put]
          exact anyA_sound f _ _ _ h w s⟩

/-! what must wait -/
def Closed (ops : Array Oper) (listed : Array Bool) : Prop :=
  ∀ j oj, ops[j]? = some oj → listed.getD j false = true → ∀ e ∈ oj.after, Region.binds .any e = true → listed.getD e.on false = true
def reach (ops : Array Oper) : Nat → Nat → Nat → Bool
  | 0, _, _ => false
  | f + 1, j, i => match ops[j]? with
    | none => false
    | some oj => oj.after.toList.any fun e => Region.binds .any e && (Nat.beq e.on i || reach ops f e.on i)
theorem reach_spec {listed : Array Bool} (hc : Closed ops listed) : ∀ (f j i : Nat) (oj : Oper), ops[j]? = some oj → reach ops f j i = true →
    (∀ e ∈ oj.after, Region.binds .any e = true → listed.getD e.on false = true) → listed.getD i false = true
  | 0, _, _, _, _, h, _ => by simp [reach] at h
  | f + 1, j, i, oj, hj, h, hall => by
    simp only [reach, hj, List.any_eq_true, Bool.and_eq_true, Bool.or_eq_true] at h
    obtain ⟨e, he, hb, hor⟩ := h
    have he' : e ∈ oj.after := by simpa using he
    have hl := hall e he' hb
    rcases hor with h1 | h1
    · rw [← Nat.eq_of_beq_eq_true h1]; exact hl
    · cases hk : ops[e.on]? with
      | none => cases f <;> simp [reach, hk] at h1
      | some ok => exact reach_spec hc f e.on i ok hk h1 fun e2 h2 hb2 => hc e.on ok hk hl e2 h2 hb2
theorem closed_set {listed : Array Bool} {j : Nat} (hc : Closed ops listed) (hr : j ∈ Region.ready .any ops listed) : Closed ops (listed.setIfInBounds j true) := by
  intro k ok hk hl e he hb
  by_cases hkj : j = k
  · subst hkj
    obtain ⟨_, o, ho, hall⟩ := mem_ready.1 hr
    rw [hk] at ho
    cases ho
    exact getD_set_true (hall e he hb)
  · rw [getD_set_ne false hkj] at hl
    exact getD_set_true (hc k ok hk hl e he hb)

def alone (cls : Nat → Nat) (i j : Nat) : Prop := (cls i = 1 → cls j ≤ 2 ∨ cls j = 4) ∧ (cls i = 2 → cls j = 0 ∨ cls j = 2)

theorem alloc_inj {w : World} {o o' : Obj} (h : w.alloc o = w.alloc o') : o = o' := by
  have h1 : (w.alloc o).heap = (w.alloc o').heap := by rw [h]
  have h2 : (w.heap.push o) = (w.heap.push o') := h1
  exact (Array.push_eq_push.1 h2).1

theorem opA_swap {i j : Nat} {oi oj : Oper} (hi : ops[i]? = some oi) (hj : ops[j]? = some oj) (hap : oi.apart ops oj = true)
    (hsi : ∀ cs b, oi.op ≠ .select cs b) (hsj : ∀ cs b, oj.op ≠ .select cs b) (hci : cls i ≤ 2) (hal : alone cls i j)
    {K : Env → List HP → Prop} {l : Env} {L : List HP}
    (h : opA P ops cls i (opA P ops cls j K) l L) (hK : ∀ l L L2, L.Perm L2 → K l L → K l L2) : opA P ops cls j (opA P ops cls i K) l L := by
  obtain ⟨h1, h2, h3⟩ := Oper.apart_spec hap
  have h2' : ∀ d, oj.dst = some d → oi.dst ≠ some d := fun d hd he => h2 d he hd
  have ei : ∀ (l : Env) (u : Value), execOp (evl (put l oj.dst u)) oi = execOp (evl l) oi := fun l u => exec_put hsi h3
  have ej : ∀ (l : Env) (u : Value), execOp (evl (put l oi.dst u)) oj = execOp (evl l) oj := fun l u => exec_put hsj h1
  have wi : ∀ (l : Env) (u : Value), Region.wanted oi (yielded ops (put l oj.dst u).toArray) = Region.wanted oi (yielded ops l.toArray) := fun l u => want_put h3
  have wj : ∀ (l : Env) (u : Value), Region.wanted oj (yielded ops (put l oi.dst u).toArray) = Region.wanted oj (yielded ops l.toArray) := fun l u => want_put h1
  have pc : ∀ (l : Env) (v u : Value), put (put l oi.dst v) oj.dst u = put (put l oj.dst u) oi.dst v := fun l v u => put_comm h2
  -- i's own step, kept through j's
  unfold opA at h
  simp only [hi] at h
  split at h
  · rename_i hwi
    split at h
    · -- class 0
      obtain ⟨v, hv, h⟩ := h
      have back : ∀ (l' : Env) (L' : List HP), execOp (evl l') oi = execOp (evl l) oi → Region.wanted oi (yielded ops l'.toArray) = true → K (put l' oi.dst v) L' → opA P ops cls i K l' L' := fun l' L' he hw k => by
        unfold opA
        simp only [hi, hw, if_true]
        rename_i hc0
        simp only [hc0]
        exact ⟨v, fun w => by rw [he]; exact hv w, k⟩
      unfold opA
      simp only [hj, wj] at h ⊢
      split at h
      · rename_i hwj
        rw [if_pos hwj]
        split at h
        · obtain ⟨u, hu, k⟩ := h
          exact ⟨u, fun w => by rw [← ej l v]; exact hu w, back _ _ (ei l u) (by rw [wi]; exact hwi) (by rw [← pc]; exact k)⟩
        · obtain ⟨u, hu, k⟩ := h
          exact ⟨u, fun M => step_env (ej l v).symm (hu M), back _ _ (ei l u) (by rw [wi]; exact hwi) (by rw [← pc]; exact k)⟩
        · obtain ⟨s, t, cs, hr, k⟩ := h
          exact ⟨s, t, cs, fun w => by rw [← ej l v]; exact hr w, fun b => back _ _ (ei l _) (by rw [wi]; exact hwi) (by rw [← pc]; exact k b)⟩
        · obtain ⟨R, hR, k⟩ := h
          exact ⟨R, fun M => step_env (ej l v).symm (hR M), fun u N r => back _ _ (ei l u) (by rw [wi]; exact hwi) (by rw [← pc]; exact k u N r)⟩
        · refine step_map (step_env (ej l v).symm h) (fun _ s => s) (fun u L' w s k => ⟨L', s, back _ _ (ei l u) (by rw [wi]; exact hwi) (by rw [← pc]; exact k)⟩) (fun _ _ _ _ h => h.elim)
      · rename_i hwj
        rw [if_neg hwj]
        exact back _ _ (ei l undef) (by rw [wi]; exact hwi) (by rw [← pc]; exact h)
    · -- class 1
      rename_i hc1
      obtain ⟨v, hv, h⟩ := h
      have hcj := hal.1 hc1
      have back : ∀ (l' : Env) (N : List HP), execOp (evl l') oi = execOp (evl l) oi → Region.wanted oi (yielded ops l'.toArray) = true → K (put l' oi.dst v) (N ++ L) → opA P ops cls i K l' (N ++ L) := fun l' N he hw k => by
        unfold opA
        simp only [hi, hw, if_true, hc1]
        exact ⟨v, fun M => by rw [← List.append_assoc]; exact step_env he (hv (M ++ N)), k⟩
      unfold opA
      simp only [hj, wj] at h ⊢
      split at h
      · rename_i hwj
        rw [if_pos hwj]
        split at h
        · obtain ⟨u, hu, k⟩ := h
          exact ⟨u, fun w => by rw [← ej l v]; exact hu w, back _ [] (ei l u) (by rw [wi]; exact hwi) (by rw [← pc]; exact k)⟩
        · obtain ⟨u, hu, k⟩ := h
          exact ⟨u, fun M => step_env (ej l v).symm (hu M), back _ [] (ei l u) (by rw [wi]; exact hwi) (by rw [← pc]; exact k)⟩
        · obtain ⟨s, t, cs, hr, k⟩ := h
          exact ⟨s, t, cs, fun w => by rw [← ej l v]; exact hr w, fun b => back _ [ptc b t cs] (ei l _) (by rw [wi]; exact hwi) (by rw [← pc]; exact k b)⟩
        · obtain ⟨R, hR, k⟩ := h
          exact ⟨R, fun M => step_env (ej l v).symm (hR M), fun u N r => back _ N (ei l u) (by rw [wi]; exact hwi) (by rw [← pc]; exact k u N r)⟩
        · rename_i n0 n1 n2 n4
          have : cls j = 0 ∨ cls j = 1 ∨ cls j = 2 ∨ cls j = 4 := by omega
          rcases this with h0 | h0 | h0 | h0
          · exact (n0 h0).elim
          · exact (n1 h0).elim
          · exact (n2 h0).elim
          · exact (n4 h0).elim
      · rename_i hwj
        rw [if_neg hwj]
        exact back _ [] (ei l undef) (by rw [wi]; exact hwi) (by rw [← pc]; exact h)
    · -- class 2
      rename_i hc2
      obtain ⟨s, t, cs, hr, h⟩ := h
      have hcj := hal.2 hc2
      have back : ∀ (l' : Env) (L' : List HP), execOp (evl l') oi = execOp (evl l) oi → Region.wanted oi (yielded ops l'.toArray) = true → (∀ b, K (put l' oi.dst (s b)) (ptc b t cs :: L')) → opA P ops cls i K l' L' := fun l' L' he hw k => by
        unfold opA
        simp only [hi, hw, if_true, hc2]
        exact ⟨s, t, cs, fun w => by rw [he]; exact hr w, k⟩
      unfold opA
      simp only [hj, wj] at h ⊢
      by_cases hwj : Region.wanted oj (yielded ops l.toArray) = true
      · simp only [hwj, if_true] at h ⊢
        rcases hcj with hcj | hcj <;> simp only [hcj] at h ⊢
        · obtain ⟨u, hu, _⟩ := h 0
          have hu' : ∀ w, (execOp (evl l) oj).run P w = .ok (.value u) w := fun w => by rw [← ej l (s 0)]; exact hu w
          refine ⟨u, hu', back _ _ (ei l u) (by rw [wi]; exact hwi) fun b => ?_⟩
          obtain ⟨u', hu2, k⟩ := h b
          have e1 := hu2 default
          rw [ej, hu'] at e1
          simp only [Result.ok.injEq, Go.Next.value.injEq, and_true] at e1
          rw [← e1] at k
          rw [← pc]; exact k
        · obtain ⟨s', t', cs', hr', _⟩ := h 0
          have hr0 : ∀ w, (execOp (evl l) oj).run P w = .ok (.value (s' w.heap.size)) (w.alloc (.cells cs'.toArray t')) := fun w => by rw [← ej l (s 0)]; exact hr' w
          refine ⟨s', t', cs', hr0, fun b' => back _ _ (ei l _) (by rw [wi]; exact hwi) fun b => ?_⟩
          obtain ⟨s2, t2, cs2, hr2, k⟩ := h b
          have e0 : ∀ w : World, s' w.heap.size = s2 w.heap.size ∧ w.alloc (.cells cs'.toArray t') = w.alloc (.cells cs2.toArray t2) := fun w => by
            have e1 := hr2 w
            rw [ej, hr0] at e1
            simpa only [Result.ok.injEq, Go.Next.value.injEq] using e1
          have e1 := alloc_inj (e0 default).2
          simp only [Obj.cells.injEq, and_true] at e1
          have e2 : cs' = cs2 := by
            have := congrArg Array.toList e1.1
            simpa using this
          have e3 : s' b' = s2 b' := by
            have := (e0 { (default : World) with heap := Array.replicate b' (.deferred none) }).1
            simpa using this
          have k' := k b'
          rw [← e2, ← e1.2, ← e3] at k'
          rw [← pc]
          exact hK _ _ _ (List.Perm.swap _ _ _) k'
      · simp only [hwj] at h ⊢
        refine back _ _ (ei l undef) (by rw [wi]; exact hwi) fun b => ?_
        rw [← pc]
        exact h b
    · rename_i h4
      omega
    · rename_i n0 n1 n2 n4
      have : cls i = 0 ∨ cls i = 1 ∨ cls i = 2 := by omega
      rcases this with h0 | h0 | h0
      · exact (n0 h0).elim
      · exact (n1 h0).elim
      · exact (n2 h0).elim
  · rename_i hwi
    have hwi' : Region.wanted oi (yielded ops l.toArray) = false := by simpa using hwi
    have back : ∀ (l' : Env) (L' : List HP), Region.wanted oi (yielded ops l'.toArray) = false → K (put l' oi.dst undef) L' → opA P ops cls i K l' L' := fun l' L' hw k => by
      unfold opA
      simp only [hi, hw, Bool.false_eq_true, if_false]
      exact k
    unfold opA
    simp only [hj, wj] at h ⊢
    split at h
    · rename_i hwj
      rw [if_pos hwj]
      split at h
      · obtain ⟨u, hu, k⟩ := h
        exact ⟨u, fun w => by rw [← ej l undef]; exact hu w, back _ _ (by rw [wi]; exact hwi') (by rw [← pc]; exact k)⟩
      · obtain ⟨u, hu, k⟩ := h
        exact ⟨u, fun M => step_env (ej l undef).symm (hu M), back _ _ (by rw [wi]; exact hwi') (by rw [← pc]; exact k)⟩
      · obtain ⟨s, t, cs, hr, k⟩ := h
        exact ⟨s, t, cs, fun w => by rw [← ej l undef]; exact hr w, fun b => back _ _ (by rw [wi]; exact hwi') (by rw [← pc]; exact k b)⟩
      · obtain ⟨R, hR, k⟩ := h
        exact ⟨R, fun M => step_env (ej l undef).symm (hR M), fun u N r => back _ _ (by rw [wi]; exact hwi') (by rw [← pc]; exact k u N r)⟩
      · refine step_map (step_env (ej l undef).symm h) (fun _ s => s) (fun u L' w s k => ⟨L', s, back _ _ (by rw [wi]; exact hwi') (by rw [← pc]; exact k)⟩) (fun _ _ _ _ h => h.elim)
    · rename_i hwj
      rw [if_neg hwj]
      exact back _ _ (by rw [wi]; exact hwi') (by rw [← pc]; exact h)

theorem anyA_first {N : Env → List HP → Prop} {i : Nat} {oi : Oper} (hi : ops[i]? = some oi) (hsel : ∀ (j : Nat) (o : Oper) cs b, ops[j]? = some o → o.op ≠ .select cs b) (hci : cls i ≤ 2) :
    ∀ (fuel : Nat) (listed : Array Bool) (l : Env) (L : List HP), Closed ops listed →
      (∀ j oj, ops[j]? = some oj → j ≠ i → listed.getD j true = false → (∀ e ∈ oj.after, Region.binds .any e = true → e.on ≠ i) → oi.apart ops oj = true) →
      (∀ j, j ≠ i → listed.getD j true = false → alone cls i j ∨ reach ops 40 j i = true) →
      i ∈ Region.ready .any ops listed → opA P ops cls i (AnyA P ops cls N fuel (listed.setIfInBounds i true)) l L → AnyA P ops cls N (fuel + 1) listed l L := by
  have hout : ∀ {K : Env → List HP → Prop} {l : Env} {L : List HP}, opA P ops cls i K l L → ∃ l' L', K l' L' := fun {K l L} h => by
    unfold opA at h
    simp only [hi] at h
    split at h
    · split at h
      · obtain ⟨v, _, k⟩ := h; exact ⟨_, _, k⟩
      · obtain ⟨v, _, k⟩ := h; exact ⟨_, _, k⟩
      · obtain ⟨s, t, cs, _, k⟩ := h; exact ⟨_, _, k 0⟩
      · rename_i h4
        omega
      · rename_i n0 n1 n2 n4
        have : cls i = 0 ∨ cls i = 1 ∨ cls i = 2 := by omega
        rcases this with h0 | h0 | h0
        · exact (n0 h0).elim
        · exact (n1 h0).elim
        · exact (n2 h0).elim
    · exact ⟨_, _, h⟩
  intro fuel
  induction fuel with
  | zero =>
    intro listed l L hc hfree hal hr H
    refine ⟨fun h => (by rw [h] at hr; cases hr), fun j hj => ?_⟩
    by_cases hji : j = i
    · subst hji; exact H
    · have := ready_mono hj hji
      obtain ⟨_, _, h0, _⟩ := hout H
      rw [h0] at this
      cases this
  | succ fuel ih =>
    intro listed l L hc hfree hal hr H
    refine ⟨fun h => (by rw [h] at hr; cases hr), fun j hj => ?_⟩
    by_cases hji : j = i
    · subst hji; exact H
    · obtain ⟨hjun, oj, hoj, hall⟩ := mem_ready.1 hj
      have hiun := (mem_ready.1 hr).1
      have hifalse : listed.getD i false = true → False := fun h1 => by
        rcases Nat.lt_or_ge i listed.size with h' | h'
        · simp [h'] at hiun h1; rw [hiun] at h1; cases h1
        · simp [Array.getElem?_eq_none h'] at h1
      have hnot : ∀ e ∈ oj.after, Region.binds .any e = true → e.on ≠ i := fun e he hb heq => hifalse (heq ▸ hall e he hb)
      have hap := hfree j oj hoj hji hjun hnot
      have halj : alone cls i j := by
        rcases hal j hji hjun with h1 | h1
        · exact h1
        · exact (hifalse (reach_spec hc 40 j i oj hoj h1 hall)).elim
      -- j's step behind i's, for all that i may lead to
      have H2 : opA P ops cls i (opA P ops cls j (AnyA P ops cls N fuel ((listed.setIfInBounds i true).setIfInBounds j true))) l L :=
        opA_mono (List.Perm.refl L) (fun l L L2 hp h => opA_mono hp (fun l L L2 hp h => anyA_perm _ _ l L L2 hp h) (h.2 j (ready_mono hj hji))) H
      have H3 := opA_swap hi hoj hap (hsel i oi · · hi) (hsel j oj · · hoj) hci halj H2 (fun l L L2 hp h => anyA_perm _ _ l L L2 hp h)
      refine opA_mono (List.Perm.refl L) (fun l L L2 hp h => anyA_perm _ _ l L L2 hp ?_) H3
      rw [Array.setIfInBounds_comm _ _ (Ne.symm hji)] at h
      refine ih (listed.setIfInBounds j true) l L (closed_set hc hj) (fun k ok hk hki hun hno => ?_) (fun k hki hun => ?_) (ready_mono hr (Ne.symm hji)) h
      · refine hfree k ok hk hki ?_ hno
        by_cases hjk : j = k
        · subst hjk; exact hjun
        · rw [getD_set_ne true hjk] at hun; exact hun
      · refine hal k hki ?_
        by_cases hjk : j = k
        · subst hjk; exact hjun
        · rw [getD_set_ne true hjk] at hun; exact hun

/-! the order that is walked -/
def clsOf (σ : List (Nat × Nat)) (i : Nat) : Nat :=
  match σ with
  | [] => 3
  | p :: r => bif Nat.beq p.1 i then p.2 else clsOf r i
def aloneB (c d : Nat) : Bool := (!Nat.beq c 1 || (Nat.ble d 2 || Nat.beq d 4)) && (!Nat.beq c 2 || (Nat.beq d 0 || Nat.beq d 2))
def orderB (ops : Array Oper) (cls : Nat → Nat) : List (Nat × Nat) → Array Bool → Bool
  | [], listed => (Region.ready .any ops listed).isEmpty
  | p :: r, listed => Nat.beq (cls p.1) p.2 && (Region.ready .any ops listed).contains p.1 &&
      (bif Nat.ble p.2 2 then Region.free .any ops listed p.1 && ((List.range ops.size).all fun j => Nat.beq j p.1 || listed.getD j true || aloneB p.2 (cls j) || reach ops 40 j p.1)
        else Region.ready .any ops listed == [p.1]) && orderB ops cls r (listed.setIfInBounds p.1 true)
def drawB (ops : Array Oper) (σ : List (Nat × Nat)) : Bool := Nat.beq σ.length ops.size && Region.noSelect ops && orderB ops (clsOf σ) σ (Array.replicate ops.size false)

theorem aloneB_spec {i j : Nat} (h : aloneB (cls i) (cls j) = true) : alone cls i j := by
  simp only [aloneB, Bool.and_eq_true, Bool.or_eq_true, Bool.not_eq_true', Nat.ble_eq] at h
  refine ⟨fun h1 => ?_, fun h2 => ?_⟩
  · rcases h.1 with h0 | h0 | h0
    · rw [h1] at h0; simp at h0
    · exact .inl h0
    · exact .inr (Nat.eq_of_beq_eq_true h0)
  · rcases h.2 with h0 | h0 | h0
    · rw [h2] at h0; simp at h0
    · exact .inl (Nat.eq_of_beq_eq_true h0)
    · exact .inr (Nat.eq_of_beq_eq_true h0)

/-- in that order -/
def inOrder (P : Program) (ops : Array Oper) (cls : Nat → Nat) (N : Env → List HP → Prop) : List (Nat × Nat) → Env → List HP → Prop
  | [], l, L => N l L
  | p :: r, l, L => opA P ops cls p.1 (inOrder P ops cls N r) l L

theorem order_any {N : Env → List HP → Prop} (hsel : ∀ (j : Nat) (o : Oper) cs b, ops[j]? = some o → o.op ≠ .select cs b) :
    ∀ (σ : List (Nat × Nat)) (listed : Array Bool) (l : Env) (L : List HP), Closed ops listed → listed.size = ops.size → orderB ops cls σ listed = true → inOrder P ops cls N σ l L → AnyA P ops cls N σ.length listed l L
  | [], listed, l, L, _, _, hB, h => ⟨by simpa [orderB] using hB, L, .refl _, h⟩
  | p :: r, listed, l, L, hc, hsz, hB, h => by
    simp only [orderB, Bool.and_eq_true, cond_eq_ite] at hB
    obtain ⟨⟨⟨hcl, hr⟩, hk⟩, hB'⟩ := hB
    have hcl := Nat.eq_of_beq_eq_true hcl
    have hr : p.1 ∈ Region.ready .any ops listed := by simpa using hr
    have hnext : opA P ops cls p.1 (AnyA P ops cls N r.length (listed.setIfInBounds p.1 true)) l L :=
      opA_mono (List.Perm.refl L) (fun l L L2 hp h => anyA_perm _ _ l L L2 hp (order_any hsel r _ l L (closed_set hc hr) (by simpa using hsz) hB' h)) h
    split at hk
    · rename_i hle
      rw [Nat.ble_eq] at hle
      obtain ⟨_, oi, hoi, _⟩ := mem_ready.1 hr
      simp only [Bool.and_eq_true, List.all_eq_true, List.mem_range, Bool.or_eq_true] at hk
      refine anyA_first hoi hsel (by omega) _ _ _ _ hc (Region.free_spec hoi hk.1) (fun j hji hun => ?_) hr hnext
      have hjs : j < ops.size := by
        rcases Nat.lt_or_ge j listed.size with h' | h'
        · omega
        · simp [Array.getElem?_eq_none h'] at hun
      rcases hk.2 j hjs with ((h1 | h1) | h1) | h1
      · exact absurd (Nat.eq_of_beq_eq_true h1) hji
      · rw [hun] at h1; cases h1
      · rw [← hcl] at h1; exact .inl (aloneB_spec h1)
      · exact .inr h1
    · have hk : Region.ready .any ops listed = [p.1] := by simpa using hk
      refine ⟨fun h0 => (by rw [h0] at hk; cases hk), fun i hi => ?_⟩
      rw [hk] at hi
      have : i = p.1 := by simpa using hi
      subst this
      exact hnext

/-! that order, reckoned -/
structure CD (P : Program) (g : FuncId) (as : List Value) (L : List HP) (K : Value → Prop) : Prop where
  go : ∃ v, (∀ M, Con P g as (M ++ L) (Is v (M ++ L))) ∧ K v
theorem CD.is {g : FuncId} {as : List Value} {L : List HP} {K : Value → Prop} {v : Value} (c : ∀ M, Con P g as (M ++ L) (Is v (M ++ L))) (k : K v) : CD P g as L K := ⟨v, c, k⟩
/-- a run of the model's own that only reads -/
structure SR (P : Program) (s : Sem Value) (L : List HP) (K : Value → Prop) : Prop where
  go : ∃ v, (∀ w, Sat w L → s.run P w = .ok v w) ∧ K v
theorem tyK_of {k : TyI → Prop} : ∀ {τ : Tys} {t : TypeId} {i : TyI}, τ[t]? = some (some i) → k i → tyK τ t k
  | [], _, _, h, _ => by simp at h
  | some j :: _, 0, i, h, hk => by simp at h; subst h; exact hk
  | none :: _, 0, i, h, _ => by simp at h
  | some j :: τ, n + 1, i, h, hk => tyK_of (τ := τ) (t := n) (by simpa using h) hk
  | none :: τ, n + 1, i, h, hk => tyK_of (τ := τ) (t := n) (by simpa using h) hk
def readC (P : Program) (τ : Tys) (o : Oper) (l : Env) (L : List HP) (K : Value → Prop) : Prop :=
  match o.op with
  | .lookup t x ix ok => evK l x fun v => evK l ix fun vi => SR P (Instr.lookup t v vi ok) L K
  | .convert s d x => tyK τ s fun _ => tyK τ d fun j => evK l x fun v => (match j.d, v with
    | .string, .slice a n c => SR P (convert s d (.slice a n c)) L K
    | _, _ => False)
  | .load t a => tyK τ t fun i => evK l a fun va => (match va with
    | .pointer (some a) => bif aggD i.d then LdN L a i.size (fun vs => forceL vs fun vs => K (.agg vs.toArray)) else Ld L a K
    | _ => False)
  | .call { callee := .value f, args := as, argTypes := _ } => evK l f fun vf => evsK l as.toList fun vs => (match vf with
    | .func (.func g) first captured => forceL (first.toList ++ vs ++ captured.toList) fun as => CD P g as L K
    | _ => False)
  | _ => False
/-- a call that reads, and lays more -/
structure CN (P : Program) (g : FuncId) (as : List Value) (L : List HP) (K : Value → List HP → Prop) : Prop where
  go : ∃ R : Value → List HP → Prop, (∀ M, Con P g as (M ++ L) (fun v L' => ∃ N, R v N ∧ Ent L' (M ++ (N ++ L)))) ∧ ∀ v N, R v N → K v (N ++ L)
def newC (P : Program) (τ : Tys) (o : Oper) (l : Env) (L : List HP) (K : Value → List HP → Prop) : Prop :=
  match o.op with
  | .call { callee := .value f, args := as, argTypes := _ } => evK l f fun vf => evsK l as.toList fun vs => (match vf with
    | .func (.func g) first captured => forceL (first.toList ++ vs ++ captured.toList) fun as => CN P g as L K
    | _ => False)
  | _ => False
def pushC (P : Program) (τ : Tys) (o : Oper) (l : Env) (L : List HP) (K : Value → List HP → Prop) : Prop :=
  match o.op with
  | .alloc _ | .box _ _ | .buildSlice _ _ _ => opC P τ o l L K noX
  | _ => False
def nthO (all : List Oper) (n : Nat) (k : Oper → Prop) : Prop :=
  match all, n with
  | [], _ => False
  | o :: _, 0 => k o
  | _ :: r, n + 1 => nthO r n k
theorem nthO_spec {k : Oper → Prop} : ∀ {all : List Oper} {n : Nat}, nthO all n k → ∃ o, all[n]? = some o ∧ k o
  | [], _, h => by simp [nthO] at h
  | o :: _, 0, h => ⟨o, by simp, by simpa [nthO] using h⟩
  | _ :: r, n + 1, h => by
    obtain ⟨o, ho, hk⟩ := nthO_spec (all := r) (n := n) (by simpa [nthO] using h)
    exact ⟨o, by simpa using ho, hk⟩
def wpD (P : Program) (τ : Tys) (all : List Oper) (N : Env → List HP → Prop) (σ : List (Nat × Nat)) : Env → List HP → Prop :=
  List.rec (motive := fun _ => Env → List HP → Prop) (fun l L => N l L)
    (fun p _ ih l L => nthO all p.1 fun o => grdK all o.guard l
      (fun l => match p.2 with
        | 0 => pureC τ o l (fun v => putK l o.dst v fun l' => ih l' L) (fun _ => False)
        | 1 => readC P τ o l L (fun v => putK l o.dst v fun l' => ih l' L)
        | 2 => pushC P τ o l L (fun v L' => putK l o.dst v fun l' => ih l' L')
        | 4 => newC P τ o l L (fun v L' => putK l o.dst v fun l' => ih l' L')
        | _ => opC P τ o l L (fun v L' => putK l o.dst v fun l' => ih l' L') noX)
      (fun l => putK l o.dst undef fun l' => ih l' L)) σ
theorem wpD_cons {all : List Oper} {N : Env → List HP → Prop} {p : Nat × Nat} {r : List (Nat × Nat)} {l : Env} {L : List HP} :
    wpD P τ all N (p :: r) l L = nthO all p.1 fun o => grdK all o.guard l
      (fun l => match p.2 with
        | 0 => pureC τ o l (fun v => putK l o.dst v fun l' => wpD P τ all N r l' L) (fun _ => False)
        | 1 => readC P τ o l L (fun v => putK l o.dst v fun l' => wpD P τ all N r l' L)
        | 2 => pushC P τ o l L (fun v L' => putK l o.dst v fun l' => wpD P τ all N r l' L')
        | 4 => newC P τ o l L (fun v L' => putK l o.dst v fun l' => wpD P τ all N r l' L')
        | _ => opC P τ o l L (fun v L' => putK l o.dst v fun l' => wpD P τ all N r l' L') noX)
      (fun l => putK l o.dst undef fun l' => wpD P τ all N r l' L) := rfl

theorem read_spec (hτ : TysOk P τ) {o : Oper} {l : Env} {L : List HP} {K : Value → Prop} (h : readC P τ o l L K) :
    ∃ v, (∀ M, Step P o l (M ++ L) (Is v (M ++ L)) noX) ∧ K v := by
  unfold readC at h
  split at h
  · rename_i t x ix ok ho
    simp only [evK_eq] at h
    obtain ⟨v, hv, k⟩ := h.go
    refine ⟨v, fun M => opC_step hτ ?_, k⟩
    simp only [opC, ho, pureC, evK_eq]
    exact ⟨fun w s => ⟨v, w, M ++ L, hv w s.right, s, rfl, Ent.rfl⟩⟩
  · rename_i s d x ho
    obtain ⟨i, hi, h⟩ := tyK_spec h
    obtain ⟨j, hj, h⟩ := tyK_spec h
    simp only [evK_eq] at h
    split at h
    · rename_i a n c hd hx
      obtain ⟨v, hv, k⟩ := h.go
      refine ⟨v, fun M => opC_step hτ ?_, k⟩
      simp only [opC, ho, pureC, evK_eq, hx, convC]
      refine tyK_of hi (tyK_of hj ?_)
      rw [hd]
      exact ⟨fun w s => ⟨v, w, M ++ L, hv w s.right, s, rfl, Ent.rfl⟩⟩
    · exact h.elim
  · rename_i t a ho
    simp only [evK_eq] at h
    obtain ⟨i, hi, h⟩ := tyK_spec h
    have hi := hτ _ _ hi
    split at h
    · rename_i ad hx
      cases hg : aggD i.d with
      | true =>
        simp only [hg, cond_true] at h
        obtain ⟨vs, hlen, hv, k⟩ := h.go
        rw [forceL_eq] at k
        refine ⟨_, fun M w s => ?_, k⟩
        have := run_loadCells (P := P) (w := w) (a := ad) vs (hv w s.right)
        rw [hlen] at this
        simp only [execOp, ho, Instr.loadAt, Instr.sureAddr, hx, loadVar, Sem.run_bind, Sem.run_pure, Result.andThen_ok, aggOf hi, hg, if_true, szOf hi, this]
        exact ⟨_, s, rfl, Ent.rfl⟩
      | false =>
        simp only [hg, cond_false] at h
        obtain ⟨v, hv, k⟩ := h.go
        refine ⟨v, fun M w s => ?_, k⟩
        simp only [execOp, ho, Instr.loadAt, Instr.sureAddr, hx, loadVar, Sem.run_bind, Sem.run_pure, Result.andThen_ok, aggOf hi, hg, Bool.false_eq_true, if_false, run_load, hv w s.right]
        exact ⟨_, s, rfl, Ent.rfl⟩
    · exact h.elim
  · rename_i f as ts ho
    simp only [evK_eq, evsK_eq] at h
    split at h
    · rename_i g first captured hf
      rw [forceL_eq] at h
      obtain ⟨v, con, k⟩ := h.go
      refine ⟨v, fun M => ?_, k⟩
      refine opC_callV (τ := τ) ho ?_
      simp only [opC, ho, callC, evK_eq, evsK_eq, hf, forceL_eq]
      exact ⟨(con M).mono (fun _ _ h => h) (fun _ _ h => h.elim)⟩
    · exact h.elim
  · exact h.elim
theorem new_spec {o : Oper} {l : Env} {L : List HP} {K : Value → List HP → Prop} (h : newC P τ o l L K) :
    ∃ R : Value → List HP → Prop, (∀ M, Step P o l (M ++ L) (fun v L' => ∃ N, R v N ∧ Ent L' (M ++ (N ++ L))) noX) ∧ ∀ v N, R v N → K v (N ++ L) := by
  unfold newC at h
  split at h
  · rename_i f as ts ho
    simp only [evK_eq, evsK_eq] at h
    split at h
    · rename_i g first captured hf
      rw [forceL_eq] at h
      obtain ⟨R, con, k⟩ := h.go
      refine ⟨R, fun M => ?_, k⟩
      refine opC_callV (τ := τ) ho ?_
      simp only [opC, ho, callC, evK_eq, evsK_eq, hf, forceL_eq]
      exact ⟨(con M).mono (fun _ _ h => h) (fun _ _ h => h.elim)⟩
    · exact h.elim
  · exact h.elim
theorem push_spec (hτ : TysOk P τ) {o : Oper} {l : Env} {L : List HP} {K : Value → List HP → Prop} (h : pushC P τ o l L K) : PushV P o l L K := by
  unfold pushC at h
  split at h
  · rename_i ho; exact push_alloc hτ ho h
  · rename_i ho; exact push_box ho h
  · rename_i ho; exact push_buildSlice hτ ho h
  · exact h.elim

theorem wpD_sound (hτ : TysOk P τ) {all : List Oper} {N : Env → List HP → Prop} {cls : Nat → Nat} : ∀ (σ : List (Nat × Nat)) (l : Env) (L : List HP), (∀ p ∈ σ, cls p.1 = p.2) → wpD P τ all N σ l L →
    inOrder P all.toArray cls N σ l L
  | [], l, L, _, h => h
  | p :: r, l, L, hc, h => by
    have hc0 := hc p (by simp)
    have hcr : ∀ q ∈ r, cls q.1 = q.2 := fun q hq => hc q (by simp [hq])
    rw [wpD_cons] at h
    obtain ⟨o, ho, h⟩ := nthO_spec h
    unfold inOrder opA
    have ho' : all.toArray[p.1]? = some o := by simpa using ho
    simp only [ho']
    rcases grd_spec (g := o.guard) rfl h with ⟨hw, h⟩ | ⟨hw, h⟩
    · rw [if_pos hw, hc0]
      split at h
      · rename_i h0
        rcases pure_val hτ h with ⟨v, hv, hk⟩ | ⟨s, _, hf⟩
        · rw [putK_eq] at hk
          exact ⟨v, hv, wpD_sound hτ r _ _ hcr hk⟩
        · exact hf.elim
      · rename_i h1
        obtain ⟨v, hv, hk⟩ := read_spec hτ h
        rw [putK_eq] at hk
        exact ⟨v, hv, wpD_sound hτ r _ _ hcr hk⟩
      · rename_i h2
        obtain ⟨s, t, cs, hr, hk⟩ := push_spec hτ h
        refine ⟨s, t, cs, hr, fun b => ?_⟩
        have := hk.go b
        simp only [putK_eq] at this
        exact wpD_sound hτ r _ _ hcr this
      · rename_i h4
        obtain ⟨R, hR, hk⟩ := new_spec h
        refine ⟨R, hR, fun v N r' => ?_⟩
        have := hk v N r'
        rw [putK_eq] at this
        exact wpD_sound hτ r _ _ hcr this
      · rename_i n0 n1 n2 n4
        have key : Step P o l L (fun v L' => inOrder P all.toArray cls N r (put l o.dst v) L') noX :=
          step_map (opC_step hτ h) (fun _ h => h) (fun v L' w s hk => ⟨L', s, by rw [putK_eq] at hk; exact wpD_sound hτ r _ _ hcr hk⟩) (fun _ _ _ _ h => h.elim)
        exact key
    · rw [if_neg (by rw [hw]; simp)]
      rw [putK_eq] at h
      exact wpD_sound hτ r _ _ hcr h

theorem order_cls {ops : Array Oper} {cls : Nat → Nat} : ∀ (σ : List (Nat × Nat)) (listed : Array Bool), orderB ops cls σ listed = true → ∀ p ∈ σ, cls p.1 = p.2
  | [], _, _, p, hp => by simp at hp
  | q :: r, listed, h, p, hp => by
    simp only [orderB, Bool.and_eq_true] at h
    rcases List.mem_cons.1 hp with rfl | hp
    · exact Nat.eq_of_beq_eq_true h.1.1.1
    · exact order_cls r _ h.2 p hp

/-- A REGION THAT DRAWS, walked in the order σ (each operation's number and class) -/
theorem Dr.by {id : Nat} {ops : Array Oper} {Q : Post} {l : Env} {L : List HP} (hτ : TysOk P τ) (hm : P.follows .mixedOrders = true) (σ : List (Nat × Nat)) (hB : drawB ops σ = true)
    (h : wpD P τ ops.toList (Q .normal) σ l L) : Dr P D id ops Q l L := by
  refine ⟨fun w s => wp_region_any hm ?_⟩
  simp only [drawB, Bool.and_eq_true] at hB
  have hio := wpD_sound hτ (cls := clsOf σ) σ l L (order_cls σ _ hB.2) h
  have hsel := Region.noSelect_spec hB.1.2
  have key := order_any (N := Q .normal) hsel σ (Array.replicate ops.size false) l L (fun j oj hj hl => by rw [getD_replicate_false] at hl; cases hl) (by simp) hB.2 (by simpa using hio)
  have s' : Sat { w with drawn := w.drawn + 1 } L := s.heap rfl rfl
  have := anyA_sound (D := D) (Q := Q) σ.length _ l L key _ s'
  have hlen : σ.length = ops.size := Nat.eq_of_beq_eq_true hB.1.1
  rw [hlen] at this
  exact this

/-! an order with forks: where more than one operation may be next and they do not commute, each of them is walked -/
inductive ST where
  | nil
  | one (i c : Nat) (r : ST)
  | fork (i c : Nat) (r s : ST)
/-- (a fork's last branch is 'nil') -/
def treeB (ops : Array Oper) (cls : Nat → Nat) : Nat → ST → Array Bool → Option (List Nat) → Bool
  | _, .nil, listed, none => (Region.ready .any ops listed).isEmpty
  | _, .nil, _, some rest => rest.isEmpty
  | n + 1, .one i c r, listed, none => Nat.beq (cls i) c && (Region.ready .any ops listed).contains i &&
      (bif Nat.ble c 2 then Region.free .any ops listed i && ((List.range ops.size).all fun j => Nat.beq j i || listed.getD j true || aloneB c (cls j) || reach ops 40 j i)
        else Region.ready .any ops listed == [i]) && treeB ops cls n r (listed.setIfInBounds i true) none
  | n + 1, .fork i c r s, listed, none => (match Region.ready .any ops listed with
      | [] => false
      | j :: rest => Nat.beq j i && Nat.beq (cls i) c && treeB ops cls n r (listed.setIfInBounds i true) none && treeB ops cls (n + 1) s listed (some rest))
  | n + 1, .fork i c r s, listed, some (j :: rest) => Nat.beq j i && Nat.beq (cls i) c && treeB ops cls n r (listed.setIfInBounds i true) none && treeB ops cls (n + 1) s listed (some rest)
  | _, _, _, _ => false
def inTree (P : Program) (ops : Array Oper) (cls : Nat → Nat) (N : Env → List HP → Prop) : ST → Bool → Env → List HP → Prop
  | .nil, false, l, L => N l L
  | .nil, true, _, _ => True
  | .one i _ r, _, l, L => opA P ops cls i (inTree P ops cls N r false) l L
  | .fork i _ r s, _, l, L => opA P ops cls i (inTree P ops cls N r false) l L ∧ inTree P ops cls N s true l L
theorem tree_any {N : Env → List HP → Prop} (hsel : ∀ (j : Nat) (o : Oper) cs b, ops[j]? = some o → o.op ≠ .select cs b) :
    ∀ (t : ST) (n : Nat) (listed : Array Bool) (l : Env) (L : List HP), Closed ops listed → listed.size = ops.size →
      (treeB ops cls n t listed none = true → inTree P ops cls N t false l L → AnyA P ops cls N n listed l L) ∧
      (∀ m rest, n = m + 1 → (∀ i ∈ rest, i ∈ Region.ready .any ops listed) → treeB ops cls n t listed (some rest) = true → inTree P ops cls N t true l L → ∀ i ∈ rest, opA P ops cls i (AnyA P ops cls N m (listed.setIfInBounds i true)) l L) := by
  intro t
  induction t with
  | nil =>
    intro n listed l L hc hsz
    refine ⟨fun hB h => ?_, fun m rest hn hr hB h i hi => ?_⟩
    · have h0 : Region.ready .any ops listed = [] := by simpa [treeB] using hB
      cases n with
      | zero => exact ⟨h0, L, .refl _, h⟩
      | succ n => exact ⟨fun _ => ⟨L, .refl _, h⟩, fun i hi => by rw [h0] at hi; cases hi⟩
    · have : rest = [] := by simpa [treeB] using hB
      rw [this] at hi; cases hi
  | one i c r ih =>
    intro n listed l L hc hsz
    cases n with
    | zero => exact ⟨fun hB => by simp [treeB] at hB, fun m rest hn => by omega⟩
    | succ n =>
      refine ⟨fun hB h => ?_, fun m rest hn hr hB h => by simp [treeB] at hB⟩
      simp only [treeB, Bool.and_eq_true, cond_eq_ite] at hB
      obtain ⟨⟨⟨hcl, hr⟩, hk⟩, hB'⟩ := hB
      have hcl := Nat.eq_of_beq_eq_true hcl
      have hr : i ∈ Region.ready .any ops listed := by simpa using hr
      have hnext : opA P ops cls i (AnyA P ops cls N n (listed.setIfInBounds i true)) l L :=
        opA_mono (List.Perm.refl L) (fun l L L2 hp h => anyA_perm _ _ l L L2 hp ((ih n _ l L (closed_set hc hr) (by simpa using hsz)).1 hB' h)) h
      split at hk
      · rename_i hle
        rw [Nat.ble_eq] at hle
        obtain ⟨_, oi, hoi, _⟩ := mem_ready.1 hr
        simp only [Bool.and_eq_true, List.all_eq_true, List.mem_range, Bool.or_eq_true] at hk
        refine anyA_first hoi hsel (by omega) _ _ _ _ hc (Region.free_spec hoi hk.1) (fun j hji hun => ?_) hr hnext
        have hjs : j < ops.size := by
          rcases Nat.lt_or_ge j listed.size with h' | h'
          · omega
          · simp [Array.getElem?_eq_none h'] at hun
        rcases hk.2 j hjs with ((h1 | h1) | h1) | h1
        · exact absurd (Nat.eq_of_beq_eq_true h1) hji
        · rw [hun] at h1; cases h1
        · rw [← hcl] at h1; exact .inl (aloneB_spec h1)
        · exact .inr h1
      · have hk : Region.ready .any ops listed = [i] := by simpa using hk
        refine ⟨fun h0 => (by rw [h0] at hk; cases hk), fun k hi => ?_⟩
        rw [hk] at hi
        have : k = i := by simpa using hi
        subst this
        exact hnext
  | fork i c r s ihr ihs =>
    intro n listed l L hc hsz
    cases n with
    | zero => exact ⟨fun hB => by simp [treeB] at hB, fun m rest hn => by omega⟩
    | succ n =>
      have key : ∀ rest, (∀ k ∈ i :: rest, k ∈ Region.ready .any ops listed) → treeB ops cls n r (listed.setIfInBounds i true) none = true → treeB ops cls (n + 1) s listed (some rest) = true →
          inTree P ops cls N (.fork i c r s) false l L → ∀ k ∈ i :: rest, opA P ops cls k (AnyA P ops cls N n (listed.setIfInBounds k true)) l L := by
        intro rest hr h1 h2 h k hk
        rcases List.mem_cons.1 hk with rfl | hk
        · exact opA_mono (List.Perm.refl L) (fun l L L2 hp h => anyA_perm _ _ l L L2 hp ((ihr n _ l L (closed_set hc (hr _ (by simp))) (by simpa using hsz)).1 h1 h)) h.1
        · exact (ihs (n + 1) listed l L hc hsz).2 n rest rfl (fun j hj => hr j (by simp [hj])) h2 h.2 k hk
      refine ⟨fun hB h => ?_, fun m rest hn hr hB h => ?_⟩
      · simp only [treeB] at hB
        split at hB
        · cases hB
        · rename_i j rest hj
          simp only [Bool.and_eq_true] at hB
          obtain ⟨⟨⟨h1, h2⟩, h3⟩, h4⟩ := hB
          have h1 := Nat.eq_of_beq_eq_true h1
          subst h1
          refine ⟨fun h0 => (by rw [h0] at hj; cases hj), fun k hk => ?_⟩
          rw [hj] at hk
          exact key rest (fun k hk => by rw [hj]; exact hk) h3 h4 h k hk
      · cases rest with
        | nil => simp [treeB] at hB
        | cons j rest =>
          simp only [treeB, Bool.and_eq_true] at hB
          obtain ⟨⟨⟨h1, h2⟩, h3⟩, h4⟩ := hB
          have h1 := Nat.eq_of_beq_eq_true h1
          subst h1
          have hm : m = n := by omega
          subst hm
          exact key rest hr h3 h4 h
/-- both -/
structure Fk (A B : Prop) : Prop where
  l : A
  r : B
def wpT (P : Program) (τ : Tys) (all : List Oper) (N : Env → List HP → Prop) (t : ST) : Bool → Env → List HP → Prop :=
  ST.rec (motive := fun _ => Bool → Env → List HP → Prop) (fun b l L => match b with | false => N l L | true => True)
    (fun i c _ ih _ l L => nthO all i fun o => grdK all o.guard l
      (fun l => match c with
        | 0 => pureC τ o l (fun v => putK l o.dst v fun l' => ih false l' L) (fun _ => False)
        | 1 => readC P τ o l L (fun v => putK l o.dst v fun l' => ih false l' L)
        | 2 => pushC P τ o l L (fun v L' => putK l o.dst v fun l' => ih false l' L')
        | 4 => newC P τ o l L (fun v L' => putK l o.dst v fun l' => ih false l' L')
        | _ => opC P τ o l L (fun v L' => putK l o.dst v fun l' => ih false l' L') noX)
      (fun l => putK l o.dst undef fun l' => ih false l' L))
    (fun i c _ _ ih ihs _ l L => Fk (nthO all i fun o => grdK all o.guard l
      (fun l => match c with
        | 0 => pureC τ o l (fun v => putK l o.dst v fun l' => ih false l' L) (fun _ => False)
        | 1 => readC P τ o l L (fun v => putK l o.dst v fun l' => ih false l' L)
        | 2 => pushC P τ o l L (fun v L' => putK l o.dst v fun l' => ih false l' L')
        | 4 => newC P τ o l L (fun v L' => putK l o.dst v fun l' => ih false l' L')
        | _ => opC P τ o l L (fun v L' => putK l o.dst v fun l' => ih false l' L') noX)
      (fun l => putK l o.dst undef fun l' => ih false l' L)) (ihs true l L)) t
/-- one operation, reckoned -/
def stepT (P : Program) (τ : Tys) (all : List Oper) (i c : Nat) (ih : Env → List HP → Prop) (l : Env) (L : List HP) : Prop :=
  nthO all i fun o => grdK all o.guard l
      (fun l => match c with
        | 0 => pureC τ o l (fun v => putK l o.dst v fun l' => ih l' L) (fun _ => False)
        | 1 => readC P τ o l L (fun v => putK l o.dst v fun l' => ih l' L)
        | 2 => pushC P τ o l L (fun v L' => putK l o.dst v fun l' => ih l' L')
        | 4 => newC P τ o l L (fun v L' => putK l o.dst v fun l' => ih l' L')
        | _ => opC P τ o l L (fun v L' => putK l o.dst v fun l' => ih l' L') noX)
      (fun l => putK l o.dst undef fun l' => ih l' L)
theorem stepT_spec (hτ : TysOk P τ) {all : List Oper} {cls : Nat → Nat} {i c : Nat} {ih K : Env → List HP → Prop} {l : Env} {L : List HP} (hc : cls i = c) (h : stepT P τ all i c ih l L) (hk : ∀ l L, ih l L → K l L) :
    opA P all.toArray cls i K l L := by
  unfold stepT at h
  obtain ⟨o, ho, h⟩ := nthO_spec h
  unfold opA
  have ho' : all.toArray[i]? = some o := by simpa using ho
  simp only [ho']
  rcases grd_spec (g := o.guard) rfl h with ⟨hw, h⟩ | ⟨hw, h⟩
  · rw [if_pos hw, hc]
    split at h
    · rename_i h0
      rcases pure_val hτ h with ⟨v, hv, hk'⟩ | ⟨s, _, hf⟩
      · rw [putK_eq] at hk'
        exact ⟨v, hv, hk _ _ hk'⟩
      · exact hf.elim
    · rename_i h1
      obtain ⟨v, hv, hk'⟩ := read_spec hτ h
      rw [putK_eq] at hk'
      exact ⟨v, hv, hk _ _ hk'⟩
    · rename_i h2
      obtain ⟨s, t, cs, hr, hk'⟩ := push_spec hτ h
      refine ⟨s, t, cs, hr, fun b => ?_⟩
      have := hk'.go b
      simp only [putK_eq] at this
      exact hk _ _ this
    · rename_i h4
      obtain ⟨R, hR, hk'⟩ := new_spec h
      refine ⟨R, hR, fun v N r' => ?_⟩
      have := hk' v N r'
      rw [putK_eq] at this
      exact hk _ _ this
    · rename_i n0 n1 n2 n4
      have key : Step P o l L (fun v L' => K (put l o.dst v) L') noX :=
        step_map (opC_step hτ h) (fun _ h => h) (fun v L' w s hk' => ⟨L', s, by rw [putK_eq] at hk'; exact hk _ _ hk'⟩) (fun _ _ _ _ h => h.elim)
      exact key
  · rw [if_neg (by rw [hw]; simp)]
    rw [putK_eq] at h
    exact hk _ _ h
theorem wpT_sound (hτ : TysOk P τ) {all : List Oper} {N : Env → List HP → Prop} {cls : Nat → Nat} : ∀ (t : ST) (n : Nat) (listed : Array Bool) (o : Option (List Nat)) (l : Env) (L : List HP), treeB all.toArray cls n t listed o = true →
    wpT P τ all N t o.isSome l L → inTree P all.toArray cls N t o.isSome l L := by
  intro t
  induction t with
  | nil => intro n listed o l L hB h; cases o <;> exact h
  | one i c r ih =>
    intro n listed o l L hB h
    cases n with
    | zero => cases o <;> simp [treeB] at hB
    | succ n =>
      cases o with
      | some rest => simp [treeB] at hB
      | none =>
        simp only [treeB, Bool.and_eq_true] at hB
        exact stepT_spec hτ (Nat.eq_of_beq_eq_true hB.1.1.1) (ih := wpT P τ all N r false) h fun l L h => ih n _ none l L hB.2 h
  | fork i c r s ihr ihs =>
    intro n listed o l L hB h
    have h : Fk (stepT P τ all i c (wpT P τ all N r false) l L) (wpT P τ all N s true l L) := h
    cases n with
    | zero => cases o <;> simp [treeB] at hB
    | succ n =>
      cases o with
      | none =>
        simp only [treeB] at hB
        split at hB
        · cases hB
        · rename_i j rest hj
          simp only [Bool.and_eq_true] at hB
          exact ⟨stepT_spec hτ (Nat.eq_of_beq_eq_true hB.1.1.2) h.l fun l L h => ihr n _ none l L hB.1.2 h, ihs (n + 1) _ (some rest) l L hB.2 h.r⟩
      | some rest =>
        cases rest with
        | nil => simp [treeB] at hB
        | cons j rest =>
          simp only [treeB, Bool.and_eq_true] at hB
          exact ⟨stepT_spec hτ (Nat.eq_of_beq_eq_true hB.1.1.2) h.l fun l L h => ihr n _ none l L hB.1.2 h, ihs (n + 1) _ (some rest) l L hB.2 h.r⟩
theorem anyA_weak {N N' : Env → List HP → Prop} (hN : ∀ l L, N l L → N' l L) : ∀ (f : Nat) (listed : Array Bool) (l : Env) (L : List HP), AnyA P ops cls N f listed l L → AnyA P ops cls N' f listed l L
  | 0, listed, l, L, h => ⟨h.1, let ⟨L', p, n⟩ := h.2; ⟨L', p, hN _ _ n⟩⟩
  | f + 1, listed, l, L, h => ⟨fun h0 => let ⟨L', p, n⟩ := h.1 h0; ⟨L', p, hN _ _ n⟩, fun i hi =>
      opA_mono (List.Perm.refl L) (fun l L L2 hp h => anyA_perm _ _ l L L2 hp (anyA_weak hN f _ l L h)) (h.2 i hi)⟩
def clsT : ST → Nat → Nat
  | .nil, _ => 3
  | .one i c r, k => bif Nat.beq i k then c else clsT r k
  | .fork i c r _, k => bif Nat.beq i k then c else clsT r k
def drawT (ops : Array Oper) (t : ST) : Bool := Region.noSelect ops && treeB ops (clsT t) ops.size t (Array.replicate ops.size false) none
/-- a region, walked in all orders that matter, up to what 'R' says -/
theorem Dr.tree {id : Nat} {ops : Array Oper} {Q : Post} {l : Env} {L : List HP} (hτ : TysOk P τ) (hm : P.follows .mixedOrders = true) (t : ST) (hB : drawT ops t = true) (R : Env → List HP → Prop)
    (h : wpT P τ ops.toList R t false l L) (k : ∀ l' L', R l' L' → Q .normal l' L') : Dr P D id ops Q l L := by
  refine ⟨fun w s => wp_region_any hm ?_⟩
  simp only [drawT, Bool.and_eq_true] at hB
  have hsel := Region.noSelect_spec hB.1
  have hio := wpT_sound hτ (all := ops.toList) (cls := clsT t) (N := R) t ops.size (Array.replicate ops.size false) none l L (by simpa using hB.2) h
  have key := (tree_any (N := R) hsel t ops.size (Array.replicate ops.size false) l L (fun j oj hj hl => by rw [getD_replicate_false] at hl; cases hl) (by simp)).1 hB.2 (by simpa using hio)
  have s' : Sat { w with drawn := w.drawn + 1 } L := s.heap rfl rfl
  exact anyA_sound (D := D) (Q := Q) ops.size _ l L (anyA_weak k _ _ _ _ key) _ s'
/-- just this environment, and this memory -/
structure Mid (l : Env) (L : List HP) (l' : Env) (L' : List HP) : Prop where
  env : l' = l
  mem : Ent L' L
end Go.Eng
