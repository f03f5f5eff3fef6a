/- A region that draws its order, some of whose operations write: one part of memory stays and is read by all (S), the rest (A) goes from one writing operation to the next. -/
import Derived.Test.YtdjpcfaidgofoaaGreatEngMore
set_option linter.all false
namespace Go.Eng
set_option linter.unusedVariables false
variable {P : Program} {τ : Tys} {D : List Deferred} {ops : Array Oper} {cls : Nat → Nat} {S : List HP}

/-- one operation, by its class: 0 looks at no memory; 1 reads S; 2 lays a new row; else it turns A, whatever stands beside -/
def opB (P : Program) (ops : Array Oper) (S : List HP) (cls : Nat → Nat) (i : Nat) (K : Env → List HP → Prop) (l : Env) (A : List HP) : Prop :=
  match ops[i]? with
  | none => K l A
  | some o => if Region.wanted o (yielded ops l.toArray) = true then
      (match cls i with
      | 0 => ∃ v, (∀ w, (execOp (evl l) o).run P w = .ok (.value v) w) ∧ K (put l o.dst v) A
      | 1 => ∃ v, (∀ M, Step P o l (M ++ S) (Is v (M ++ S)) noX) ∧ K (put l o.dst v) A
      | 2 => ∃ (s : Nat → Value) (t : TypeId) (cs : List Value), (∀ w, (execOp (evl l) o).run P w = .ok (.value (s w.heap.size)) (w.alloc (.cells cs.toArray t))) ∧
          ∀ b, K (put l o.dst (s b)) (ptc b t cs :: A)
      | _ => ∃ R : Value → List HP → Prop, (∃ v N, R v N) ∧ (∀ M, Step P o l (A ++ (S ++ M)) (fun v L' => ∃ N, R v N ∧ Ent L' (N ++ (S ++ M))) noX) ∧ ∀ v N, R v N → K (put l o.dst v) N)
    else K (put l o.dst undef) A

def AnyB (P : Program) (ops : Array Oper) (S : List HP) (cls : Nat → Nat) (N : Env → List HP → Prop) : Nat → Array Bool → Env → List HP → Prop
  | 0, listed, l, L => Region.ready .any ops listed = [] ∧ ∃ L', L.Perm L' ∧ N l L'
  | f + 1, listed, l, L => (Region.ready .any ops listed = [] → ∃ L', L.Perm L' ∧ N l L') ∧
      ∀ i ∈ Region.ready .any ops listed, opB P ops S cls i (AnyB P ops S cls N f (listed.setIfInBounds i true)) l L

theorem opB_mono {i : Nat} {K K' : Env → List HP → Prop} {l : Env} {L L2 : List HP} (hp : L.Perm L2) (hk : ∀ l L L2, L.Perm L2 → K l L → K' l L2) (h : opB P ops S cls i K l L) : opB P ops S cls i K' l L2 := by
  unfold opB at *
  split at h
  · exact hk _ _ _ hp h
  · rename_i o ho
    split at h
    · rename_i hw
      rw [if_pos hw]
      split at h
      · obtain ⟨v, hv, k⟩ := h; exact ⟨v, hv, hk _ _ _ hp k⟩
      · obtain ⟨v, hv, k⟩ := h; exact ⟨v, hv, hk _ _ _ hp k⟩
      · obtain ⟨s, t, cs, hr, k⟩ := h; exact ⟨s, t, cs, hr, fun b => hk _ _ _ (hp.cons _) (k b)⟩
      · obtain ⟨R, hn, hR, k⟩ := h
        exact ⟨R, hn, fun M => step_map (hR M) (fun w s => s.perm ((hp.symm).append_right _)) (fun v' L' w s hi => ⟨L', s, hi⟩) (fun _ _ _ _ h => h.elim), fun v N r => hk _ _ _ (.refl _) (k v N r)⟩
    · rename_i hw
      rw [if_neg hw]
      exact hk _ _ _ hp h
theorem anyB_perm {N : Env → List HP → Prop} : ∀ (f : Nat) (listed : Array Bool) (l : Env) (L L2 : List HP), L.Perm L2 → AnyB P ops S cls N f listed l L → AnyB P ops S cls N f listed l L2
  | 0, listed, l, L, L2, hp, h => ⟨h.1, let ⟨L', p, n⟩ := h.2; ⟨L', hp.symm.trans p, n⟩⟩
  | f + 1, listed, l, L, L2, hp, h => ⟨fun h0 => let ⟨L', p, n⟩ := h.1 h0; ⟨L', hp.symm.trans p, n⟩, fun i hi =>
      opB_mono hp (fun l L L2 hp h => anyB_perm f _ l L L2 hp h) (h.2 i hi)⟩

theorem anyB_sound {Q : Post} : ∀ (f : Nat) (listed : Array Bool) (l : Env) (L : List HP), AnyB P ops S cls (fun l A => Q .normal l (A ++ S)) f listed l L → ∀ w, Sat w (L ++ S) →
    wpAny P .any ops (lift D Q) f listed ⟨l.toArray, D⟩ w
  | 0, listed, l, L, h, w, s => ⟨h.1, let ⟨L', p, n⟩ := h.2; ⟨l, L' ++ S, rfl, s.perm (p.append_right S), n⟩⟩
  | f + 1, listed, l, L, h, w, s => ⟨fun h0 => let ⟨L', p, n⟩ := h.1 h0; ⟨l, L' ++ S, rfl, s.perm (p.append_right S), n⟩, fun i hi => by
      have h := h.2 i hi
      unfold opB at h
      unfold wpOp
      split at h
      · rename_i ho; rw [ho]; exact anyB_sound f _ _ _ h w s
      · rename_i o ho
        rw [ho]
        simp only
        split at h
        · rename_i hw
          rw [if_pos hw]
          refine .inl ?_
          split at h
          · obtain ⟨v, hv, k⟩ := h
            exact step_op (step_val (K := fun v' L' => v' = v ∧ L' = L ++ S) v hv ⟨rfl, rfl⟩) s fun v' L' w' s' ⟨h1, h2⟩ => by
              subst h1; subst h2; exact anyB_sound f _ _ _ k w' s'
          · obtain ⟨v, hv, k⟩ := h
            exact step_op (step_map (hv L) (fun _ h => h) (fun v L w s h => ⟨L, s, h⟩) (fun _ _ _ _ h => h.elim)) s fun v' L' w' s' hi => by
              rw [hi.v]; exact anyB_sound f _ _ _ k w' (hi.l w' s')
          · obtain ⟨sv, t, cs, hr, k⟩ := h
            have st : Step P o l (L ++ S) (fun v' L' => ∃ b, v' = sv b ∧ L' = ptc b t cs :: (L ++ S)) (fun ch L' => Q (.panic ch) l L') := fun w s => by
              rw [hr]; exact ⟨_, s.alloc _, w.heap.size, rfl, rfl⟩
            exact step_op st s fun v' L' w' s' ⟨b, h1, h2⟩ => by
              subst h1; subst h2; exact anyB_sound f _ _ (ptc b t cs :: L) (k b) w' s'
          · obtain ⟨R, _, hR, k⟩ := h
            have hR := hR []
            rw [List.append_nil] at hR
            exact step_op (step_map hR (fun _ h => h) (fun v L w s h => ⟨L, s, h⟩) (fun _ _ _ _ h => h.elim)) s fun v' L' w' s' ⟨N, r, e⟩ =>
              anyB_sound f _ _ _ (k v' N r) w' (e w' s')
        · rename_i hw
          rw [if_neg hw, put_put]
          exact anyB_sound f _ _ _ h w s⟩

def aloneF (cls : Nat → Nat) (i j : Nat) : Prop := 2 ≤ cls i → cls j = 0 ∨ cls j = 2

theorem opB_big {i : Nat} {o : Oper} (hi : ops[i]? = some o) {K : Env → List HP → Prop} {l : Env} {A : List HP} (hw : Region.wanted o (yielded ops l.toArray) = true) (h0 : cls i = 0 → False) (h1 : cls i = 1 → False) (h2 : cls i = 2 → False)
    (h : ∃ R : Value → List HP → Prop, (∃ v N, R v N) ∧ (∀ M, Step P o l (A ++ (S ++ M)) (fun v L' => ∃ N, R v N ∧ Ent L' (N ++ (S ++ M))) noX) ∧ ∀ v N, R v N → K (put l o.dst v) N) : opB P ops S cls i K l A := by
  unfold opB
  simp only [hi, hw, if_true]
  generalize cls i = c at *
  match c, h0, h1, h2 with
  | 0, h0, _, _ => exact (h0 rfl).elim
  | 1, _, h1, _ => exact (h1 rfl).elim
  | 2, _, _, h2 => exact (h2 rfl).elim
  | n + 3, _, _, _ => exact h

theorem opB_swap {i j : Nat} {oi oj : Oper} (hi : ops[i]? = some oi) (hj : ops[j]? = some oj) (hap : oi.apart ops oj = true)
    (hsi : ∀ cs b, oi.op ≠ .select cs b) (hsj : ∀ cs b, oj.op ≠ .select cs b) (hal : aloneF cls i j)
    {K : Env → List HP → Prop} {l : Env} {L : List HP}
    (h : opB P ops S cls i (opB P ops S cls j K) l L) (hK : ∀ l L L2, L.Perm L2 → K l L → K l L2) : opB P ops S cls j (opB P ops S cls i K) l L := by
  obtain ⟨h1, h2, h3⟩ := Oper.apart_spec hap
  have h2' : ∀ d, oj.dst = some d → oi.dst ≠ some d := fun d hd he => h2 d he hd
  have ei : ∀ (l : Env) (u : Value), execOp (evl (put l oj.dst u)) oi = execOp (evl l) oi := fun l u => exec_put hsi h3
  have ej : ∀ (l : Env) (u : Value), execOp (evl (put l oi.dst u)) oj = execOp (evl l) oj := fun l u => exec_put hsj h1
  have wi : ∀ (l : Env) (u : Value), Region.wanted oi (yielded ops (put l oj.dst u).toArray) = Region.wanted oi (yielded ops l.toArray) := fun l u => want_put h3
  have wj : ∀ (l : Env) (u : Value), Region.wanted oj (yielded ops (put l oi.dst u).toArray) = Region.wanted oj (yielded ops l.toArray) := fun l u => want_put h1
  have pc : ∀ (l : Env) (v u : Value), put (put l oi.dst v) oj.dst u = put (put l oj.dst u) oi.dst v := fun l v u => put_comm h2
  unfold opB at h
  simp only [hi] at h
  -- j, ahead of what stays the same for i
  have ahead : ∀ (v : Value), (∀ (l' : Env) (L' : List HP), execOp (evl l') oi = execOp (evl l) oi → Region.wanted oi (yielded ops l'.toArray) = Region.wanted oi (yielded ops l.toArray) → K (put l' oi.dst v) L' → opB P ops S cls i K l' L') →
      opB P ops S cls j K (put l oi.dst v) L → opB P ops S cls j (opB P ops S cls i K) l L := fun v back h => by
    unfold opB
    unfold opB at h
    simp only [hj, wj] at h ⊢
    split at h
    · rename_i hwj
      rw [if_pos hwj]
      split at h
      · obtain ⟨u, hu, k⟩ := h
        exact ⟨u, fun w => by rw [← ej l v]; exact hu w, back _ _ (ei l u) (wi l u) (by rw [← pc]; exact k)⟩
      · obtain ⟨u, hu, k⟩ := h
        exact ⟨u, fun M => step_env (ej l v).symm (hu M), back _ _ (ei l u) (wi l u) (by rw [← pc]; exact k)⟩
      · obtain ⟨s, t, cs, hr, k⟩ := h
        exact ⟨s, t, cs, fun w => by rw [← ej l v]; exact hr w, fun b => back _ _ (ei l _) (wi l _) (by rw [← pc]; exact k b)⟩
      · obtain ⟨R, hn, hR, k⟩ := h
        exact ⟨R, hn, fun M => step_env (ej l v).symm (hR M), fun u N r => back _ _ (ei l u) (wi l u) (by rw [← pc]; exact k u N r)⟩
    · rename_i hwj
      rw [if_neg hwj]
      exact back _ _ (ei l undef) (wi l undef) (by rw [← pc]; exact h)
  -- j that lays a row, or looks at nothing, ahead of what i may have led to
  have before : ∀ (R : Value → List HP → Prop) (G : List HP → List HP → Prop), (∃ v N, R v N) → (∀ v N, R v N → opB P ops S cls j K (put l oi.dst v) N) → (cls j = 0 ∨ cls j = 2) →
      (∀ (l' : Env) (X : List HP), execOp (evl l') oi = execOp (evl l) oi → Region.wanted oi (yielded ops l'.toArray) = Region.wanted oi (yielded ops l.toArray) → (∀ v N, R v N → K (put l' oi.dst v) (X ++ N)) → opB P ops S cls i K l' (X ++ L)) →
      opB P ops S cls j (opB P ops S cls i K) l L := fun R _ ⟨v0, N0, r0⟩ h hcj back => by
    unfold opB
    unfold opB at h
    simp only [hj, wj] at h ⊢
    by_cases hwj : Region.wanted oj (yielded ops l.toArray) = true
    · simp only [hwj, if_true] at h ⊢
      rcases hcj with hcj | hcj <;> simp only [hcj] at h ⊢
      · obtain ⟨u, hu, _⟩ := h v0 N0 r0
        have hu' : ∀ w, (execOp (evl l) oj).run P w = .ok (.value u) w := fun w => by rw [← ej l v0]; exact hu w
        refine ⟨u, hu', back _ [] (ei l u) (wi l u) fun v N r => ?_⟩
        obtain ⟨u', hu2, k⟩ := h v N r
        have e1 := hu2 default
        rw [ej, hu'] at e1
        simp only [Result.ok.injEq, Go.Next.value.injEq, and_true] at e1
        rw [← e1] at k
        rw [← pc]; exact k
      · obtain ⟨s', t', cs', hr', _⟩ := h v0 N0 r0
        have hr0 : ∀ w, (execOp (evl l) oj).run P w = .ok (.value (s' w.heap.size)) (w.alloc (.cells cs'.toArray t')) := fun w => by rw [← ej l v0]; exact hr' w
        refine ⟨s', t', cs', hr0, fun b' => back _ [ptc b' t' cs'] (ei l _) (wi l _) fun v N r => ?_⟩
        obtain ⟨s2, t2, cs2, hr2, k⟩ := h v N r
        have e0 : ∀ w : World, s' w.heap.size = s2 w.heap.size ∧ w.alloc (.cells cs'.toArray t') = w.alloc (.cells cs2.toArray t2) := fun w => by
          have e1 := hr2 w
          rw [ej, hr0] at e1
          simpa only [Result.ok.injEq, Go.Next.value.injEq] using e1
        have e1 := alloc_inj (e0 default).2
        simp only [Obj.cells.injEq, and_true] at e1
        have e2 : cs' = cs2 := by
          have := congrArg Array.toList e1.1
          simpa using this
        have e3 : s' b' = s2 b' := by
          have := (e0 { (default : World) with heap := Array.replicate b' (.deferred none) }).1
          simpa using this
        have k' := k b'
        rw [← e2, ← e1.2, ← e3] at k'
        rw [← pc]
        exact k'
    · simp only [hwj] at h ⊢
      refine back _ [] (ei l undef) (wi l undef) fun v N r => ?_
      rw [← pc]
      exact h v N r
  split at h
  · rename_i hwi
    split at h
    · -- class 0
      rename_i hc0
      obtain ⟨v, hv, h⟩ := h
      refine ahead v (fun l' L' he hw k => ?_) h
      rw [hwi] at hw
      unfold opB
      simp only [hi, hw, if_true, hc0]
      exact ⟨v, fun w => by rw [he]; exact hv w, k⟩
    · -- class 1
      rename_i hc1
      obtain ⟨v, hv, h⟩ := h
      refine ahead v (fun l' L' he hw k => ?_) h
      rw [hwi] at hw
      unfold opB
      simp only [hi, hw, if_true, hc1]
      exact ⟨v, fun M => step_env he (hv M), k⟩
    · -- class 2
      rename_i hc2
      obtain ⟨s, t, cs, hr, h⟩ := h
      refine before (fun v N => ∃ b, v = s b ∧ N = ptc b t cs :: L) (fun _ _ => True) ⟨_, _, 0, rfl, rfl⟩ (by rintro v N ⟨b, rfl, rfl⟩; exact h b) (hal (by omega)) (fun l' X he hw k => ?_)
      rw [hwi] at hw
      unfold opB
      simp only [hi, hw, if_true, hc2]
      exact ⟨s, t, cs, fun w => by rw [he]; exact hr w, fun b => hK _ _ _ List.perm_middle (k _ _ ⟨b, rfl, rfl⟩)⟩
    · rename_i n0 n1 n2
      obtain ⟨R, hn, hR, h⟩ := h
      have hc3 : 2 ≤ cls i := by
        rcases Nat.lt_or_ge (cls i) 2 with h' | h'
        · rcases (by omega : cls i = 0 ∨ cls i = 1) with e | e
          · exact (n0 e).elim
          · exact (n1 e).elim
        · exact h'
      refine before R (fun _ _ => True) hn h (hal hc3) (fun l' X he hw k => ?_)
      rw [hwi] at hw
      refine opB_big hi hw n0 n1 n2 ?_
      · refine ⟨fun v N' => ∃ N, R v N ∧ N' = X ++ N, hn.elim fun v h => h.elim fun N r => ⟨v, _, N, r, rfl⟩, fun M => ?_, ?_⟩
        · refine step_map (step_env he (hR (X ++ M))) (fun w s => s.perm ?_) (fun v L' w s hx => ?_) (fun _ _ _ _ h => h.elim)
          · have p1 : (X ++ L ++ (S ++ M)).Perm (L ++ (X ++ (S ++ M))) := by rw [← List.append_assoc L X]; exact List.perm_append_comm.append_right _
            refine p1.trans (List.Perm.append_left L ?_)
            rw [← List.append_assoc, ← List.append_assoc]
            exact List.perm_append_comm.append_right M
          · obtain ⟨N, r, e⟩ := hx
            refine ⟨L', s, X ++ N, ⟨N, r, rfl⟩, e.trans (Ent.perm ?_)⟩
            have p1 : (X ++ N ++ (S ++ M)).Perm (N ++ (X ++ (S ++ M))) := by rw [← List.append_assoc N X]; exact List.perm_append_comm.append_right _
            refine List.Perm.symm (p1.trans (List.Perm.append_left N ?_))
            rw [← List.append_assoc, ← List.append_assoc]
            exact List.perm_append_comm.append_right M
        · rintro v N' ⟨N, r, rfl⟩
          exact k v N r
  · rename_i hwi
    refine ahead undef (fun l' L' he hw k => ?_) h
    unfold opB
    simp only [hi, hw, hwi]
    exact k

theorem anyB_first {N : Env → List HP → Prop} {i : Nat} {oi : Oper} (hi : ops[i]? = some oi) (hsel : ∀ (j : Nat) (o : Oper) cs b, ops[j]? = some o → o.op ≠ .select cs b) :
    ∀ (fuel : Nat) (listed : Array Bool) (l : Env) (L : List HP), Closed ops listed →
      (∀ j oj, ops[j]? = some oj → j ≠ i → listed.getD j true = false → (∀ e ∈ oj.after, Region.binds .any e = true → e.on ≠ i) → oi.apart ops oj = true) →
      (∀ j, j ≠ i → listed.getD j true = false → aloneF cls i j ∨ reach ops 40 j i = true) →
      i ∈ Region.ready .any ops listed → opB P ops S cls i (AnyB P ops S cls N fuel (listed.setIfInBounds i true)) l L → AnyB P ops S cls N (fuel + 1) listed l L := by
  have hout : ∀ {K : Env → List HP → Prop} {l : Env} {L : List HP}, opB P ops S cls i K l L → ∃ l' L', K l' L' := fun {K l L} h => by
    unfold opB at h
    simp only [hi] at h
    split at h
    · split at h
      · obtain ⟨v, _, k⟩ := h; exact ⟨_, _, k⟩
      · obtain ⟨v, _, k⟩ := h; exact ⟨_, _, k⟩
      · obtain ⟨s, t, cs, _, k⟩ := h; exact ⟨_, _, k 0⟩
      · obtain ⟨R, ⟨v, N, r⟩, _, k⟩ := h; exact ⟨_, _, k v N r⟩
    · exact ⟨_, _, h⟩
  intro fuel
  induction fuel with
  | zero =>
    intro listed l L hc hfree hal hr H
    refine ⟨fun h => (by rw [h] at hr; cases hr), fun j hj => ?_⟩
    by_cases hji : j = i
    · subst hji; exact H
    · have := ready_mono hj hji
      obtain ⟨_, _, h0, _⟩ := hout H
      rw [h0] at this
      cases this
  | succ fuel ih =>
    intro listed l L hc hfree hal hr H
    refine ⟨fun h => (by rw [h] at hr; cases hr), fun j hj => ?_⟩
    by_cases hji : j = i
    · subst hji; exact H
    · obtain ⟨hjun, oj, hoj, hall⟩ := mem_ready.1 hj
      have hiun := (mem_ready.1 hr).1
      have hifalse : listed.getD i false = true → False := fun h1 => by
        rcases Nat.lt_or_ge i listed.size with h' | h'
        · simp [h'] at hiun h1; rw [hiun] at h1; cases h1
        · simp [Array.getElem?_eq_none h'] at h1
      have hnot : ∀ e ∈ oj.after, Region.binds .any e = true → e.on ≠ i := fun e he hb heq => hifalse (heq ▸ hall e he hb)
      have hap := hfree j oj hoj hji hjun hnot
      have halj : aloneF cls i j := by
        rcases hal j hji hjun with h1 | h1
        · exact h1
        · exact (hifalse (reach_spec hc 40 j i oj hoj h1 hall)).elim
      have H2 : opB P ops S cls i (opB P ops S cls j (AnyB P ops S cls N fuel ((listed.setIfInBounds i true).setIfInBounds j true))) l L :=
        opB_mono (List.Perm.refl L) (fun l L L2 hp h => opB_mono hp (fun l L L2 hp h => anyB_perm _ _ l L L2 hp h) (h.2 j (ready_mono hj hji))) H
      have H3 := opB_swap hi hoj hap (hsel i oi · · hi) (hsel j oj · · hoj) halj H2 (fun l L L2 hp h => anyB_perm _ _ l L L2 hp h)
      refine opB_mono (List.Perm.refl L) (fun l L L2 hp h => anyB_perm _ _ l L L2 hp ?_) H3
      rw [Array.setIfInBounds_comm _ _ (Ne.symm hji)] at h
      refine ih (listed.setIfInBounds j true) l L (closed_set hc hj) (fun k ok hk hki hun hno => ?_) (fun k hki hun => ?_) (ready_mono hr (Ne.symm hji)) h
      · refine hfree k ok hk hki ?_ hno
        by_cases hjk : j = k
        · subst hjk; exact hjun
        · rw [getD_set_ne true hjk] at hun; exact hun
      · refine hal k hki ?_
        by_cases hjk : j = k
        · subst hjk; exact hjun
        · rw [getD_set_ne true hjk] at hun; exact hun

def aloneFB (c d : Nat) : Bool := Nat.ble c 1 || Nat.beq d 0 || Nat.beq d 2
def orderF (ops : Array Oper) (cls : Nat → Nat) : List (Nat × Nat) → Array Bool → Bool
  | [], listed => (Region.ready .any ops listed).isEmpty
  | p :: r, listed => Nat.beq (cls p.1) p.2 && (Region.ready .any ops listed).contains p.1 &&
      Region.free .any ops listed p.1 && ((List.range ops.size).all fun j => Nat.beq j p.1 || listed.getD j true || aloneFB p.2 (cls j) || reach ops 40 j p.1) && orderF ops cls r (listed.setIfInBounds p.1 true)
def drawF (ops : Array Oper) (σ : List (Nat × Nat)) : Bool := Nat.beq σ.length ops.size && Region.noSelect ops && orderF ops (clsOf σ) σ (Array.replicate ops.size false)
theorem aloneFB_spec {i j : Nat} (h : aloneFB (cls i) (cls j) = true) : aloneF cls i j := by
  simp only [aloneFB, Bool.or_eq_true, Nat.ble_eq] at h
  intro h2
  rcases h with (h0 | h0) | h0
  · omega
  · exact .inl (Nat.eq_of_beq_eq_true h0)
  · exact .inr (Nat.eq_of_beq_eq_true h0)
def inOrderF (P : Program) (ops : Array Oper) (S : List HP) (cls : Nat → Nat) (N : Env → List HP → Prop) : List (Nat × Nat) → Env → List HP → Prop
  | [], l, L => N l L
  | p :: r, l, L => opB P ops S cls p.1 (inOrderF P ops S cls N r) l L
theorem orderF_any {N : Env → List HP → Prop} (hsel : ∀ (j : Nat) (o : Oper) cs b, ops[j]? = some o → o.op ≠ .select cs b) :
    ∀ (σ : List (Nat × Nat)) (listed : Array Bool) (l : Env) (L : List HP), Closed ops listed → listed.size = ops.size → orderF ops cls σ listed = true → inOrderF P ops S cls N σ l L → AnyB P ops S cls N σ.length listed l L
  | [], listed, l, L, _, _, hB, h => ⟨by simpa [orderF] using hB, L, .refl _, h⟩
  | p :: r, listed, l, L, hc, hsz, hB, h => by
    simp only [orderF, Bool.and_eq_true] at hB
    obtain ⟨⟨⟨⟨hcl, hr⟩, hfree⟩, hk⟩, hB'⟩ := hB
    have hcl := Nat.eq_of_beq_eq_true hcl
    have hr : p.1 ∈ Region.ready .any ops listed := by simpa using hr
    have hnext : opB P ops S cls p.1 (AnyB P ops S cls N r.length (listed.setIfInBounds p.1 true)) l L :=
      opB_mono (List.Perm.refl L) (fun l L L2 hp h => anyB_perm _ _ l L L2 hp (orderF_any hsel r _ l L (closed_set hc hr) (by simpa using hsz) hB' h)) h
    obtain ⟨_, oi, hoi, _⟩ := mem_ready.1 hr
    simp only [List.all_eq_true, List.mem_range, Bool.or_eq_true] at hk
    refine anyB_first hoi hsel _ _ _ _ hc (Region.free_spec hoi hfree) (fun j hji hun => ?_) hr hnext
    have hjs : j < ops.size := by
      rcases Nat.lt_or_ge j listed.size with h' | h'
      · omega
      · simp [Array.getElem?_eq_none h'] at hun
    rcases hk j hjs with ((h1 | h1) | h1) | h1
    · exact absurd (Nat.eq_of_beq_eq_true h1) hji
    · rw [hun] at h1; cases h1
    · rw [← hcl] at h1; exact .inl (aloneFB_spec h1)
    · exact .inr h1

/-! reckoned -/
/-- a call that turns A -/
structure CF (P : Program) (g : FuncId) (as : List Value) (S A : List HP) (K : Value → List HP → Prop) : Prop where
  go : ∃ R : Value → List HP → Prop, (∃ v N, R v N) ∧ (∀ M, Con P g as (A ++ (S ++ M)) (fun v L' => ∃ N, R v N ∧ Ent L' (N ++ (S ++ M)))) ∧ ∀ v N, R v N → K v N
/-- a run of the model's own that turns A -/
structure SF (P : Program) (s : Sem Value) (S A : List HP) (K : Value → List HP → Prop) : Prop where
  go : ∃ R : Value → List HP → Prop, (∃ v N, R v N) ∧ (∀ M, Sm P s (A ++ (S ++ M)) (fun v L' => ∃ N, R v N ∧ Ent L' (N ++ (S ++ M)))) ∧ ∀ v N, R v N → K v N
/-- a store in A -/
structure FS (P : Program) (S A : List HP) (a : Addr) (vs : List Value) (K : List HP → Prop) : Prop where
  go : ∃ A', (∀ M, St P (A ++ (S ++ M)) a vs (fun L' => Ent L' (A' ++ (S ++ M)))) ∧ K A'
def frmC (P : Program) (τ : Tys) (o : Oper) (l : Env) (S A : List HP) (K : Value → List HP → Prop) : Prop :=
  match o.op with
  | .call { callee := .value f, args := as, argTypes := _ } => evK l f fun vf => evsK l as.toList fun vs => (match vf with
    | .func (.func g) first captured => forceL (first.toList ++ vs ++ captured.toList) fun as => CF P g as S A K
    | _ => False)
  | .call { callee := .builtin .append, args := as, argTypes := ts } => evsK l as.toList fun vs => SF P (Builtin.append_ ts o.type vs.toArray) S A K
  | .store t a x => tyK τ t fun i => evK l a fun va => evK l x fun vx => (match va with
    | .pointer (some a) => cellsK vx fun cs => Nd (cs.length = i.size) (FS P S A a cs fun A' => K undef A')
    | _ => False)
  | _ => False
theorem frm_spec (hτ : TysOk P τ) {o : Oper} {l : Env} {A : List HP} {K : Value → List HP → Prop} (h : frmC P τ o l S A K) :
    ∃ R : Value → List HP → Prop, (∃ v N, R v N) ∧ (∀ M, Step P o l (A ++ (S ++ M)) (fun v L' => ∃ N, R v N ∧ Ent L' (N ++ (S ++ M))) noX) ∧ ∀ v N, R v N → K v N := by
  unfold frmC at h
  split at h
  · rename_i f as ts ho
    simp only [evK_eq, evsK_eq] at h
    split at h
    · rename_i g first captured hf
      rw [forceL_eq] at h
      obtain ⟨R, hn, con, k⟩ := h.go
      refine ⟨R, hn, fun M => ?_, k⟩
      refine opC_callV (τ := τ) ho ?_
      simp only [opC, ho, callC, evK_eq, evsK_eq, hf, forceL_eq]
      exact ⟨(con M).mono (fun _ _ h => h) (fun _ _ h => h.elim)⟩
    · exact h.elim
  · rename_i as ts ho
    simp only [evsK_eq] at h
    obtain ⟨R, hn, sm, k⟩ := h.go
    refine ⟨R, hn, fun M => opC_step hτ ?_, k⟩
    simp only [opC, ho, builtinC, evsK_eq]
    exact sm M
  · rename_i t a x ho
    obtain ⟨i, hi, h⟩ := tyK_spec h
    simp only [evK_eq] at h
    split at h
    · rename_i ad hv
      rw [cellsK_eq] at h
      obtain ⟨A', st, k⟩ := h.go.go
      refine ⟨fun v N => v = undef ∧ N = A', ⟨_, _, rfl, rfl⟩, fun M => opC_step hτ ?_, by rintro v N ⟨rfl, rfl⟩; exact k⟩
      simp only [opC, ho, evK_eq, hv, cellsK_eq]
      refine tyK_of hi ⟨h.is, ?_⟩
      obtain ⟨L', h1, h2⟩ := (st M).go
      exact ⟨L', h1, A', by simp, h2⟩
    · exact h.elim
  · exact h.elim
def wpF (P : Program) (τ : Tys) (all : List Oper) (N : Env → List HP → Prop) (S : List HP) (σ : List (Nat × Nat)) : Env → List HP → Prop :=
  List.rec (motive := fun _ => Env → List HP → Prop) (fun l L => N l L)
    (fun p _ ih l L => nthO all p.1 fun o => grdK all o.guard l
      (fun l => match p.2 with
        | 0 => pureC τ o l (fun v => putK l o.dst v fun l' => ih l' L) (fun _ => False)
        | 1 => readC P τ o l S (fun v => putK l o.dst v fun l' => ih l' L)
        | 2 => pushC P τ o l L (fun v L' => putK l o.dst v fun l' => ih l' L')
        | _ => frmC P τ o l S L (fun v L' => putK l o.dst v fun l' => ih l' L'))
      (fun l => putK l o.dst undef fun l' => ih l' L)) σ
theorem wpF_cons {all : List Oper} {N : Env → List HP → Prop} {p : Nat × Nat} {r : List (Nat × Nat)} {l : Env} {L : List HP} :
    wpF P τ all N S (p :: r) l L = nthO all p.1 fun o => grdK all o.guard l
      (fun l => match p.2 with
        | 0 => pureC τ o l (fun v => putK l o.dst v fun l' => wpF P τ all N S r l' L) (fun _ => False)
        | 1 => readC P τ o l S (fun v => putK l o.dst v fun l' => wpF P τ all N S r l' L)
        | 2 => pushC P τ o l L (fun v L' => putK l o.dst v fun l' => wpF P τ all N S r l' L')
        | _ => frmC P τ o l S L (fun v L' => putK l o.dst v fun l' => wpF P τ all N S r l' L'))
      (fun l => putK l o.dst undef fun l' => wpF P τ all N S r l' L) := rfl
theorem wpF_sound (hτ : TysOk P τ) {all : List Oper} {N : Env → List HP → Prop} {cls : Nat → Nat} : ∀ (σ : List (Nat × Nat)) (l : Env) (L : List HP), (∀ p ∈ σ, cls p.1 = p.2) → wpF P τ all N S σ l L →
    inOrderF P all.toArray S cls N σ l L
  | [], l, L, _, h => h
  | p :: r, l, L, hc, h => by
    have hc0 := hc p (by simp)
    have hcr : ∀ q ∈ r, cls q.1 = q.2 := fun q hq => hc q (by simp [hq])
    rw [wpF_cons] at h
    obtain ⟨o, ho, h⟩ := nthO_spec h
    unfold inOrderF opB
    have ho' : all.toArray[p.1]? = some o := by simpa using ho
    simp only [ho']
    rcases grd_spec (g := o.guard) rfl h with ⟨hw, h⟩ | ⟨hw, h⟩
    · rw [if_pos hw, hc0]
      split at h
      · rename_i h0
        rcases pure_val hτ h with ⟨v, hv, hk⟩ | ⟨s, _, hf⟩
        · rw [putK_eq] at hk
          exact ⟨v, hv, wpF_sound hτ r _ _ hcr hk⟩
        · exact hf.elim
      · rename_i h1
        obtain ⟨v, hv, hk⟩ := read_spec hτ h
        rw [putK_eq] at hk
        exact ⟨v, hv, wpF_sound hτ r _ _ hcr hk⟩
      · rename_i h2
        obtain ⟨s, t, cs, hr, hk⟩ := push_spec hτ h
        refine ⟨s, t, cs, hr, fun b => ?_⟩
        have := hk.go b
        simp only [putK_eq] at this
        exact wpF_sound hτ r _ _ hcr this
      · rename_i n0 n1 n2
        obtain ⟨R, hn, hR, hk⟩ := frm_spec hτ h
        refine ⟨R, hn, hR, fun v N r' => ?_⟩
        have := hk v N r'
        rw [putK_eq] at this
        exact wpF_sound hτ r _ _ hcr this
    · rw [if_neg (by rw [hw]; simp)]
      rw [putK_eq] at h
      exact wpF_sound hτ r _ _ hcr h
theorem orderF_cls {ops : Array Oper} {cls : Nat → Nat} : ∀ (σ : List (Nat × Nat)) (listed : Array Bool), orderF ops cls σ listed = true → ∀ p ∈ σ, cls p.1 = p.2
  | [], _, _, p, hp => by simp at hp
  | q :: r, listed, h, p, hp => by
    simp only [orderF, Bool.and_eq_true] at h
    rcases List.mem_cons.1 hp with rfl | hp
    · exact Nat.eq_of_beq_eq_true h.1.1.1.1
    · exact orderF_cls r _ h.2 p hp
/-- A REGION THAT DRAWS, walked in the order σ, with A turned and S kept -/
theorem Dr.fr {id : Nat} {ops : Array Oper} {Q : Post} {l : Env} {L : List HP} (hτ : TysOk P τ) (hm : P.follows .mixedOrders = true) (σ : List (Nat × Nat)) (A S : List HP) (hB : drawF ops σ = true) (hL : Ent L (A ++ S))
    (h : wpF P τ ops.toList (fun l A => Q .normal l (A ++ S)) S σ l A) : Dr P D id ops Q l L := by
  refine ⟨fun w s => wp_region_any hm ?_⟩
  simp only [drawF, Bool.and_eq_true] at hB
  have hio := wpF_sound hτ (cls := clsOf σ) σ l A (orderF_cls σ _ hB.2) h
  have hsel := Region.noSelect_spec hB.1.2
  have key := orderF_any (N := fun l A => Q .normal l (A ++ S)) hsel σ (Array.replicate ops.size false) l A (fun j oj hj hl => by rw [getD_replicate_false] at hl; cases hl) (by simp) hB.2 (by simpa using hio)
  have s' : Sat { w with drawn := w.drawn + 1 } (A ++ S) := (hL w s).heap rfl rfl
  have := anyB_sound (D := D) (Q := Q) σ.length _ l A key _ s'
  have hlen : σ.length = ops.size := Nat.eq_of_beq_eq_true hB.1.1
  rw [hlen] at this
  exact this

/-! rules -/
theorem CF.is {g : FuncId} {as : List Value} {A A' : List HP} {K : Value → List HP → Prop} {v : Value} (c : ∀ M, Con P g as (A ++ (S ++ M)) (Is v (A' ++ (S ++ M)))) (k : K v A') : CF P g as S A K :=
  ⟨fun u N => u = v ∧ N = A', ⟨_, _, rfl, rfl⟩, fun M => (c M).mono (fun u L' h => ⟨A', ⟨h.v, rfl⟩, h.l⟩) (fun _ _ h => h), by rintro u N ⟨rfl, rfl⟩; exact k⟩
theorem CF.new {α : Type} {E : Enc α} {xs : List α} {t : TypeId} {g : FuncId} {as : List Value} {A A' : List HP} {K : Value → List HP → Prop} (c : ∀ M, Con P g as (A ++ (S ++ M)) (New E t xs (A' ++ (S ++ M))))
    (k : ∀ a c, xs.length ≤ c → Ad a xs.length → K (.slice a xs.length c) (own E t a c xs :: A')) : CF P g as S A K := by
  refine ⟨fun v N => ∃ a c, v = .slice a xs.length c ∧ xs.length ≤ c ∧ Ad a xs.length ∧ N = own E t a c xs :: A', ⟨_, _, some ⟨0, 0, none⟩, xs.length, rfl, Nat.le_refl _, fun _ => rfl, rfl⟩, fun M => (c M).mono (fun v L' h => ?_) (fun _ _ h => h), ?_⟩
  · obtain ⟨a, c, hv, h1, h2, h3⟩ := h.is
    exact ⟨_, ⟨a, c, hv, h1, h2, rfl⟩, h3⟩
  · rintro v N ⟨a, c, rfl, h1, h2, rfl⟩
    exact k a c h1 h2
theorem FS.at {A : List HP} {b o : Nat} {t : TypeId} {cs vs : List Value} {K : List HP → Prop} (i : Nat) (hi : A[i]? = some (ptc b t cs)) (hl : o + vs.length ≤ cs.length)
    (h1 : oneAll vs = true) (k : lsetK A i (ptc b t (ovr cs o vs)) K) : FS P S A ⟨b, o, none⟩ vs K := by
  rw [lsetK_eq] at k
  have hlt := (List.getElem?_eq_some_iff.1 hi).1
  refine ⟨_, fun M => St.at i (by rw [List.getElem?_append_left hlt]; exact hi) hl h1 ?_, k⟩
  rw [lsetK_eq, List.set_append_left _ _ hlt]
  exact Ent.rfl
variable {α : Type} {E : Enc α} {xs ys : List α} {a : Option Addr} {A : List HP}
theorem Rd.mid (h : Rd E (A ++ S) a xs) (M : List HP) : Rd E (A ++ (S ++ M)) a xs := h.ent fun w s => s.sub (by rw [← List.append_assoc]; exact List.sublist_append_left _ _)
theorem SF.appAt (hτ : TysOk P τ) {st et ty : TypeId} {si ei : TyI} {n c m c' : Nat} {a' : Option Addr} {K : Value → List HP → Prop} (i : Nat) (hi : A[i]? = some (own E et a c xs)) (hm : m = ys.length)
    (hr : Rd E (A ++ S) a' ys) (hs : τ[st]? = some (some si)) (hsd : si.d = .slice et) (he : τ[et]? = some (some ei)) (hz : ei.size = E.sz)
    (hn : n = xs.length) (hby : Nat.ble ei.bytes 4096 = true) (hmax : xs.length + ys.length ≤ 34359738368)
    (k : ∀ a2 c2, (xs ++ ys).length ≤ c2 → Ad a2 (xs ++ ys).length → ldelK A i fun N => K (.slice a2 (xs ++ ys).length c2) (own E et a2 c2 (xs ++ ys) :: N)) :
    SF P (Builtin.append_ #[st, st] ty #[.slice a n c, .slice a' m c']) S A K := by
  have hlt := (List.getElem?_eq_some_iff.1 hi).1
  refine ⟨fun v N => ∃ a2 c2, (xs ++ ys).length ≤ c2 ∧ Ad a2 (xs ++ ys).length ∧ v = .slice a2 (xs ++ ys).length c2 ∧ N = own E et a2 c2 (xs ++ ys) :: A.eraseIdx i, ⟨_, _, some ⟨0, 0, none⟩, (xs ++ ys).length, Nat.le_refl _, fun _ => rfl, rfl, rfl⟩, fun M => ?_, ?_⟩
  · refine Sm.appAt hτ i (by rw [List.getElem?_append_left hlt]; exact hi) hm (hr.mid M) hs hsd he hz hn hby hmax fun a2 c2 h1 h2 => ?_
    rw [ldelK_eq, List.eraseIdx_append_of_lt_length hlt]
    exact ⟨_, ⟨a2, c2, h1, h2, rfl, rfl⟩, Ent.rfl⟩
  · rintro v N ⟨a2, c2, h1, h2, rfl, rfl⟩
    have := k a2 c2 h1 h2
    rwa [ldelK_eq] at this
theorem SF.appNil (hτ : TysOk P τ) {st et ty : TypeId} {si ei : TyI} {m c' : Nat} {a' : Option Addr} {K : Value → List HP → Prop} (hm : m = ys.length)
    (hr : Rd E (A ++ S) a' ys) (hs : τ[st]? = some (some si)) (hsd : si.d = .slice et) (he : τ[et]? = some (some ei)) (hz : ei.size = E.sz)
    (hby : Nat.ble ei.bytes 4096 = true) (hmax : ys.length ≤ 34359738368)
    (k : ∀ a2 c2, ys.length ≤ c2 → Ad a2 ys.length → K (.slice a2 ys.length c2) (own E et a2 c2 ys :: A)) :
    SF P (Builtin.append_ #[st, st] ty #[.slice none 0 0, .slice a' m c']) S A K := by
  refine ⟨fun v N => ∃ a2 c2, ys.length ≤ c2 ∧ Ad a2 ys.length ∧ v = .slice a2 ys.length c2 ∧ N = own E et a2 c2 ys :: A, ⟨_, _, some ⟨0, 0, none⟩, ys.length, Nat.le_refl _, fun _ => rfl, rfl, rfl⟩, fun M => ?_, ?_⟩
  · exact Sm.appNil hτ hm (hr.mid M) hs hsd he hz hby hmax fun a2 c2 h1 h2 => ⟨_, ⟨a2, c2, h1, h2, rfl, rfl⟩, Ent.rfl⟩
  · rintro v N ⟨a2, c2, h1, h2, rfl, rfl⟩
    exact k a2 c2 h1 h2
theorem SF.appNew (hτ : TysOk P τ) {st et ty : TypeId} {si ei : TyI} {m c' b : Nat} {a' : Option Addr} {K : Value → List HP → Prop} (i : Nat) (hi : A[i]? = some (Eng.ptc b et [])) (hm : m = ys.length)
    (hr : Rd E (A ++ S) a' ys) (hs : τ[st]? = some (some si)) (hsd : si.d = .slice et) (he : τ[et]? = some (some ei)) (hz : ei.size = E.sz)
    (hby : Nat.ble ei.bytes 4096 = true) (hmax : ys.length ≤ 34359738368)
    (k : ∀ a2 c2, ys.length ≤ c2 → Ad a2 ys.length → ldelK A i fun N => K (.slice a2 ys.length c2) (own E et a2 c2 ys :: N)) :
    SF P (Builtin.append_ #[st, st] ty #[.slice (some ⟨b, 0, none⟩) 0 0, .slice a' m c']) S A K := by
  have hlt := (List.getElem?_eq_some_iff.1 hi).1
  refine ⟨fun v N => ∃ a2 c2, ys.length ≤ c2 ∧ Ad a2 ys.length ∧ v = .slice a2 ys.length c2 ∧ N = own E et a2 c2 ys :: A.eraseIdx i, ⟨_, _, some ⟨0, 0, none⟩, ys.length, Nat.le_refl _, fun _ => rfl, rfl, rfl⟩, fun M => ?_, ?_⟩
  · refine Sm.appNew hτ i (by rw [List.getElem?_append_left hlt]; exact hi) hm (hr.mid M) hs hsd he hz hby hmax fun a2 c2 h1 h2 => ?_
    rw [ldelK_eq, List.eraseIdx_append_of_lt_length hlt]
    exact ⟨_, ⟨a2, c2, h1, h2, rfl, rfl⟩, Ent.rfl⟩
  · rintro v N ⟨a2, c2, h1, h2, rfl, rfl⟩
    have := k a2 c2 h1 h2
    rwa [ldelK_eq] at this
end Go.Eng
