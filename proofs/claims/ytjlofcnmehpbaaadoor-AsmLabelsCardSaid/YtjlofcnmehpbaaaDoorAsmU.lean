/- The assembler's laws: AsmLabels. -/
import Derived.Test.YtjlofcnmehpbaaaDoorAsmT
set_option linter.all false
namespace Go.Proofs
open Go.Eng Go.RowKit Go.MapKept
open Classical
set_option linter.unusedVariables false
set_option maxRecDepth 100000
set_option maxHeartbeats 4000000
def labE : Enc (ByteArray × Int) := ⟨2, fun y => [.string y.1, .int .i64 y.2], (⟨#[]⟩, 0), fun _ => rfl, by omega, fun _ => rfl⟩
/-! lines that are all right -/
theorem nms_zero (all : List Ln) : ∀ (r : List Ln) (k : Nat), (nmsA all k r).2.2 = 0 → (nmsA all k r).2.1 = 0
  | [], k, h => rfl
  | l :: r, k, h => by
    rw [nmsA] at h ⊢
    split at h
    · exact absurd (show (14 : Int) = 0 from h) (by decide)
    · rename_i hc
      rw [if_neg hc]
      exact nms_zero all r (k + 1) h
theorem lns_zero : ∀ (r : List (List UInt8)) (acc : List Ln) (n : Int), (lnsA acc n r).2.2 = 0 → (lnsA acc n r).1 = acc ++ r.map lnF ∧ (lnsA acc n r).2.1 = 0
  | [], acc, n, h => by
    rw [lnsA] at h ⊢
    rw [nms_fst]
    exact ⟨by simp, nms_zero _ _ _ h⟩
  | x :: r, acc, n, h => by
    rw [lnsA] at h ⊢
    split at h
    · exact absurd (show (3 : Int) = 0 from h) (by decide)
    · rename_i h1
      rw [if_neg h1]
      split at h
      · exact absurd (show (14 : Int) = 0 from h) (by decide)
      · rename_i h2
        rw [if_neg h2]
        split at h
        · exact absurd (show (4 : Int) = 0 from h) (by decide)
        · rename_i h3
          rw [if_neg h3]
          obtain ⟨a1, a2⟩ := lns_zero r (acc ++ [lnF x]) (n + szF (lnF x)) h
          exact ⟨by rw [a1]; simp, a2⟩
theorem lines_of (s : List UInt8) : (∀ bs labs, txF X0 (splL 10 s) = .done bs labs → linesF s = ((splL 10 s).map lnF, 0, 0)) ∧ (∀ ln e, txF X0 (splL 10 s) = .fail ln e → (linesF s).2.1 = ln ∧ (linesF s).2.2 = e ∧ e ≠ 0) := by
  have he := asm_eq s
  refine ⟨fun bs labs h => ?_, fun ln e h => ?_⟩
  · rw [h] at he
    have h0 : (linesF s).2.2 = 0 := Classical.byContradiction fun hc => by
      unfold asmF at he
      rw [if_neg hc] at he
      have := congrArg (fun x => x.2.2) he
      exact hc this.symm
    obtain ⟨a1, a2⟩ := lns_zero (splL 10 s) [] 0 h0
    exact Prod.ext (by rw [List.nil_append] at a1; exact a1) (Prod.ext a2 h0)
  · have hne := tx_ne _ _ _ _ h
    rw [h] at he
    by_cases hc : (linesF s).2.2 = 0
    · unfold asmF at he
      rw [if_pos hc] at he
      have := congrArg (fun x => x.2.2) he
      exact absurd this hne
    · unfold asmF at he
      rw [if_neg hc] at he
      exact ⟨(congrArg (fun x => x.2.1) he).symm, (congrArg (fun x => x.2.2) he).symm, hne⟩
theorem Tryd.asmLabelsNo (s : ByteArray) (ln e : Int) (L : List HP) (hs : s.size ≤ 60000) (hM : Tryd.Mx L) (he : e ≠ 0) (hR : txF X0 (splL 10 s.data.toList) = .fail ln e) :
    Con Tryd.prog 10 [.string s] L (Is (.tuple #[.slice none 0 0, .int .i64 ln, .int .i64 e]) L) := by
  have hm := fun L h => Tryd.asmMadeNo s ln e L hs h he hR
  clear hR
  refine con_of Tryd.tysOk Tryd.func10 rfl rfl ?_
  conv => whnf
  repeat' (first
    | ((with_reducible refine Br.ndt ?_ ?_); (focus (first | assumption | omega)); conv => whnf)
    | ((with_reducible refine Nd.mk ?_ ?_); (focus (first | omega | rfl | assumption | (simp; done))); conv => whnf)
    | ((with_reducible refine Cl.is (hm _ (by ((repeat (first | assumption | apply Tryd.mxCons | apply Tryd.mxApp)); done))) ?_); conv => whnf))
  all_goals first | (exfalso; omega) | (refine Is.ent ?_ ?_; (focus (exact Ent.rfl)); (exact Is.rfl))
theorem lb_one {labs : List (ByteArray × Int)} {x : List UInt8} : (Lib.hasSuffix x [58] = false ∧ lbF labs x = []) ∨ (lkF labs ⟨(Lib.trimSuffix x [58]).toArray⟩ = none ∧ lbF labs x = []) ∨ ∃ v, Lib.hasSuffix x [58] = true ∧ lkF labs ⟨(Lib.trimSuffix x [58]).toArray⟩ = some v ∧ lbF labs x = [(⟨(Lib.trimSuffix x [58]).toArray⟩, v)] := by
  unfold lbF
  cases hs : Lib.hasSuffix x [58] with
  | false => exact .inl ⟨rfl, if_neg (by decide)⟩
  | true =>
    rw [if_pos rfl]
    cases hl : lkF labs ⟨(Lib.trimSuffix x [58]).toArray⟩ with
    | none => exact .inr (.inl ⟨rfl, rfl⟩)
    | some v => exact .inr (.inr ⟨v, rfl, rfl, rfl⟩)
theorem Tryd.asmLabels (s : ByteArray) (bs : List UInt8) (labs R : List (ByteArray × Int)) (L : List HP) (hs : s.size ≤ 60000) (hM : Tryd.Mx L) (hR : txF X0 (splL 10 s.data.toList) = .done bs labs) (hRR : (splL 10 s.data.toList).flatMap (lbF labs) = R) :
    Con Tryd.prog 10 [.string s] L (Exs (fun y : Option Addr × Nat => .tuple #[.slice y.1 R.length y.2, .int .i64 0, .int .i64 0]) (fun y => own labE 38 y.1 y.2 R :: L) (fun y => R.length ≤ y.2 ∧ Ad y.1 R.length)) := by
  have hm := fun L h => Tryd.asmMade s bs labs L hs h hR
  obtain ⟨q1, q2, q3⟩ := spl_sz 10 s
  have hsp : ∀ L, Tryd.Mx L → Con Tryd.prog 18 [.string s, .string ⟨#[10]⟩] L (New strE 9 ((splL 10 s.data.toList).map bsL) L) := fun L h => by
    have := Tryd.splitS s ⟨#[10]⟩ L (by omega) (by decide) h
    rw [split_any] at this
    exact this
  clear hR
  generalize splL 10 s.data.toList = qs at *
  have hwl : (qs.map bsL).length = qs.length := List.length_map _
  have hwa := fun k (hk : k < qs.length) => nl_at (qs := qs) hk
  generalize qs.map bsL = ws at *
  refine con_of Tryd.tysOk Tryd.func10 rfl rfl ?_
  conv => whnf
  repeat' (first
    | ((with_reducible refine Br.ndf ?_ ?_); (focus (first | assumption | omega)); conv => whnf)
    | ((with_reducible refine Nd.mk ?_ ?_); (focus (first | omega | rfl | assumption | (simp; done))); conv => whnf)
    | (first | ((with_reducible refine Cl.exs (hm _ (by ((repeat (first | assumption | apply Tryd.mxCons | apply Tryd.mxApp)); done))) (fun ⟨o, ⟨bs5, labs5, us5, line5⟩, a, c, mb5, a', c'⟩ ⟨⟨e1, e2⟩, w1, w2, w3, w4⟩ => ?_)); conv => whnf) | ((with_reducible refine Cl.new (hsp _ (by ((repeat (first | assumption | apply Tryd.mxCons | apply Tryd.mxApp)); done))) (fun _ _ _ _ => ?_)); conv => whnf)))
  all_goals try (exfalso; omega)
  rename_i aw cw hcw hdw
  dsimp only at e1 e2 w1 w2 w3 w4
  subst e2
  conv => whnf
  refine Lp.by2 Tryd.tysOk [28, 8] (fun (k : Nat) (P : Option Addr × Nat × List (ByteArray × Int)) => [.int .i64 k, .slice P.1 P.2.2.length P.2.1]) (fun k P => own labE 38 P.1 P.2.1 P.2.2 :: own strE 9 aw cw ws :: ptc o 54 (Tryd.asmC a bs5.length c mb5 a' us5.length c' line5) :: mapH mb5 .string (labV labs5) :: L) (fun k P => (k ≤ qs.length ∧ P.2.2.length ≤ k) ∧ P.2.2 ++ (qs.drop k).flatMap (lbF labs5) = R ∧ (P.2.2.length ≤ P.2.1 ∧ Ad P.1 P.2.2.length)) (fun k P => qs.length - k) (0) (((none, 0, []) : Option Addr × Nat × List (ByteArray × Int))) (by kernel_rfl) (by (refine FEnt.ent ?_; (repeat (first | exact FEnt.rfl | (refine FEnt.at 0 rfl ?_; (try simp only [List.eraseIdx_cons_zero, List.eraseIdx_cons_succ, List.eraseIdx_zero, List.tail_cons])) | (refine FEnt.at 1 rfl ?_; (try simp only [List.eraseIdx_cons_zero, List.eraseIdx_cons_succ, List.eraseIdx_zero, List.tail_cons])) | refine FEnt.nil ?_ | refine FEnt.drop ?_)); done)) (⟨⟨by omega, Nat.le_refl _⟩, hRR, ⟨Nat.le_refl _, fun h => absurd rfl h⟩⟩) ?_
  rintro k ⟨a1, c1, ys⟩ ⟨⟨g1, g2⟩, g3, ⟨g4, g5⟩⟩
  conv => whnf
  repeat (intro _; conv => whnf)
  dsimp only at g2 g3 g4 g5
  by_cases hk : k < qs.length
  · rw [nl_drop hk, List.flatMap_cons] at g3
    have hq3 := q3 k
    have hak := hwa k hk
    have el : (ws.getD k strE.d).data.toList = qs.getD k [] := by rw [hak]
    have esz : (ws.getD k strE.d).size ≤ 90000 := by rw [hak, bsL_size]; omega
    have hcs := fun L => Tryd.cutSuf (ws.getD k strE.d) L (by omega)
    rw [el] at hcs
    clear hwa q3 hRR hm hsp
    rcases lb_one (labs := labs5) (x := qs.getD k []) with ⟨z1, z2⟩ | ⟨z1, z2⟩ | ⟨v, z0, z1, z2⟩
    · rw [z2, List.nil_append] at g3
      rw [z1] at hcs
      cases hlk : lkF labs5 ⟨(Lib.trimSuffix (qs.getD k []) [58]).toArray⟩ with
      | none =>
        have hno := lk_none hlk
        have hno2 : ∀ p ∈ labV labs5, p.1 ≠ .string ⟨(Lib.trimSuffix (qs.getD k []) [58]).toArray⟩ := fun p hp => by
          obtain ⟨q, hq, rfl⟩ := List.mem_map.1 hp
          intro h
          exact hno q hq (Value.string.inj h)
        clear hno hlk
        conv => whnf
        repeat' (first
          | (first | ((with_reducible refine Br.ff ?_); conv => whnf) | ((with_reducible refine Br.dt ?_ ?_); (focus (first | assumption | omega)); conv => whnf))
          | ((with_reducible refine Ar.i64 ?_ ?_); (focus omega); conv => whnf)
          | ((with_reducible refine Nd.mk ?_ ?_); (focus (first | omega | rfl | assumption | (simp; done))); conv => whnf)
          | ((with_reducible refine Ix.ad ?_ ?_ ?_); (focus (assumption)); (focus (omega)); conv => whnf)
          | (first | ((with_reducible apply Ld.rdk0); (focus ((repeat ((refine Rd.own 1 rfl ?_); (assumption))); done)); (focus rfl); (focus (omega)); (focus rfl); conv => whnf) | (refine Ld.at 2 rfl rfl ?_; conv => whnf))
          | ((with_reducible refine (?_ : Sm _ (Instr.lookup _ _ _ _) _ _)); (refine Sm.lkNo Tryd.tysOk 3 rfl rfl rfl rfl rfl rfl (by first | exact rfl | exact trivial) (hno2) ?_; conv => whnf))
          | ((with_reducible refine Cl.is (hcs _) ?_); conv => whnf))
        all_goals first | (exfalso; omega) | exact ⟨k + 1, (a1, c1, ys), by kernel_rfl, by (exact Ent.rfl), ⟨⟨by omega, by dsimp only; omega⟩, g3, ⟨g4, g5⟩⟩, by omega⟩
      | some v =>
        obtain ⟨i, hi⟩ := lk_some hlk
        have hi2 : (labV labs5)[i]? = some (.string ⟨(Lib.trimSuffix (qs.getD k []) [58]).toArray⟩, .int .i64 v) := by rw [labV, List.getElem?_map, hi]; rfl
        clear hlk hi
        conv => whnf
        repeat' (first
          | (first | ((with_reducible refine Br.ff ?_); conv => whnf) | ((with_reducible refine Br.dt ?_ ?_); (focus (first | assumption | omega)); conv => whnf))
          | ((with_reducible refine Ar.i64 ?_ ?_); (focus omega); conv => whnf)
          | ((with_reducible refine Nd.mk ?_ ?_); (focus (first | omega | rfl | assumption | (simp; done))); conv => whnf)
          | ((with_reducible refine Ix.ad ?_ ?_ ?_); (focus (assumption)); (focus (omega)); conv => whnf)
          | (first | ((with_reducible apply Ld.rdk0); (focus ((repeat ((refine Rd.own 1 rfl ?_); (assumption))); done)); (focus rfl); (focus (omega)); (focus rfl); conv => whnf) | (refine Ld.at 2 rfl rfl ?_; conv => whnf))
          | ((with_reducible refine (?_ : Sm _ (Instr.lookup _ _ _ _) _ _)); (refine Sm.lkYes Tryd.tysOk 3 rfl rfl rfl rfl rfl (by first | exact rfl | exact trivial) _ (hi2) ?_; conv => whnf))
          | ((with_reducible refine Cl.is (hcs _) ?_); conv => whnf))
        all_goals first | (exfalso; omega) | exact ⟨k + 1, (a1, c1, ys), by kernel_rfl, by (exact Ent.rfl), ⟨⟨by omega, by dsimp only; omega⟩, g3, ⟨g4, g5⟩⟩, by omega⟩
    · rw [z2, List.nil_append] at g3
      have hno := lk_none z1
      have hno2 : ∀ p ∈ labV labs5, p.1 ≠ .string ⟨(Lib.trimSuffix (qs.getD k []) [58]).toArray⟩ := fun p hp => by
        obtain ⟨q, hq, rfl⟩ := List.mem_map.1 hp
        intro h
        exact hno q hq (Value.string.inj h)
      clear hno z1 z2
      cases hb : Lib.hasSuffix (qs.getD k []) [58] with
      | true =>
        rw [hb] at hcs
        conv => whnf
        repeat' (first
          | (first | ((with_reducible refine Br.tt ?_); conv => whnf) | ((with_reducible refine Br.ff ?_); conv => whnf) | ((with_reducible refine Br.dt ?_ ?_); (focus (first | assumption | omega)); conv => whnf))
          | ((with_reducible refine Ar.i64 ?_ ?_); (focus omega); conv => whnf)
          | ((with_reducible refine Nd.mk ?_ ?_); (focus (first | omega | rfl | assumption | (simp; done))); conv => whnf)
          | ((with_reducible refine Ix.ad ?_ ?_ ?_); (focus (assumption)); (focus (omega)); conv => whnf)
          | (first | ((with_reducible apply Ld.rdk0); (focus ((repeat ((refine Rd.own 1 rfl ?_); (assumption))); done)); (focus rfl); (focus (omega)); (focus rfl); conv => whnf) | (refine Ld.at 2 rfl rfl ?_; conv => whnf))
          | ((with_reducible refine (?_ : Sm _ (Instr.lookup _ _ _ _) _ _)); (refine Sm.lkNo Tryd.tysOk 3 rfl rfl rfl rfl rfl rfl (by first | exact rfl | exact trivial) (hno2) ?_; conv => whnf))
          | ((with_reducible refine Cl.is (hcs _) ?_); conv => whnf))
        all_goals first | (exfalso; omega) | exact ⟨k + 1, (a1, c1, ys), by kernel_rfl, by (exact Ent.rfl), ⟨⟨by omega, by dsimp only; omega⟩, g3, ⟨g4, g5⟩⟩, by omega⟩
      | false =>
        rw [hb] at hcs
        conv => whnf
        repeat' (first
          | (first | ((with_reducible refine Br.ff ?_); conv => whnf) | ((with_reducible refine Br.dt ?_ ?_); (focus (first | assumption | omega)); conv => whnf))
          | ((with_reducible refine Ar.i64 ?_ ?_); (focus omega); conv => whnf)
          | ((with_reducible refine Nd.mk ?_ ?_); (focus (first | omega | rfl | assumption | (simp; done))); conv => whnf)
          | ((with_reducible refine Ix.ad ?_ ?_ ?_); (focus (assumption)); (focus (omega)); conv => whnf)
          | (first | ((with_reducible apply Ld.rdk0); (focus ((repeat ((refine Rd.own 1 rfl ?_); (assumption))); done)); (focus rfl); (focus (omega)); (focus rfl); conv => whnf) | (refine Ld.at 2 rfl rfl ?_; conv => whnf))
          | ((with_reducible refine (?_ : Sm _ (Instr.lookup _ _ _ _) _ _)); (refine Sm.lkNo Tryd.tysOk 3 rfl rfl rfl rfl rfl rfl (by first | exact rfl | exact trivial) (hno2) ?_; conv => whnf))
          | ((with_reducible refine Cl.is (hcs _) ?_); conv => whnf))
        all_goals first | (exfalso; omega) | exact ⟨k + 1, (a1, c1, ys), by kernel_rfl, by (exact Ent.rfl), ⟨⟨by omega, by dsimp only; omega⟩, g3, ⟨g4, g5⟩⟩, by omega⟩
    · rw [z2, ← List.append_assoc] at g3
      rw [z0] at hcs
      obtain ⟨i, hi⟩ := lk_some z1
      have hi2 : (labV labs5)[i]? = some (.string ⟨(Lib.trimSuffix (qs.getD k []) [58]).toArray⟩, .int .i64 v) := by rw [labV, List.getElem?_map, hi]; rfl
      clear z1 z2 hi
      conv => whnf
      repeat' (first
        | (first | ((with_reducible refine Br.tt ?_); conv => whnf) | ((with_reducible refine Br.dt ?_ ?_); (focus (first | assumption | omega)); conv => whnf))
        | ((with_reducible refine Ar.i64 ?_ ?_); (focus omega); conv => whnf)
        | ((with_reducible refine Nd.mk ?_ ?_); (focus (first | omega | rfl | assumption | (simp; done))); conv => whnf)
        | ((with_reducible refine Nc.go' (fun _ => ?_)); conv => whnf)
        | ((with_reducible refine Ix.ad ?_ ?_ ?_); (focus (assumption)); (focus (omega)); conv => whnf)
        | (first | ((with_reducible apply Ld.rdk0); (focus ((repeat ((refine Rd.own 1 rfl ?_); (assumption))); done)); (focus rfl); (focus (omega)); (focus rfl); conv => whnf) | (refine Ld.at 2 rfl rfl ?_; conv => whnf))
        | ((with_reducible refine (?_ : Sm _ (Instr.lookup _ _ _ _) _ _)); (refine Sm.lkYes Tryd.tysOk 3 rfl rfl rfl rfl rfl (by first | exact rfl | exact trivial) _ (hi2) ?_; conv => whnf))
        | ((with_reducible refine Cl.is (hcs _) ?_); conv => whnf)
        | ((with_reducible refine (?_ : Sm _ (Builtin.append_ _ _ _) _ _)); (((with_reducible apply (Sm.appAt (E := labE) (et := 38) Tryd.tysOk 1)); (focus rfl)); (rotate_left; (focus (exact Rd.ptc 0 rfl [(_, _)] rfl)); rotate_right; (focus rfl)); (focus rfl); (focus rfl); (focus rfl); (focus rfl); (focus rfl); (focus rfl); (focus ((simp only [List.length_append, List.length_cons, List.length_nil]); omega)); (intro _ _ _ _); conv => whnf)))
      all_goals try (exfalso; omega)
      rename_i a6 c6 hc6 had6
      exact ⟨k + 1, (a6, c6, ys ++ [(⟨(Lib.trimSuffix (qs.getD k []) [58]).toArray⟩, v)]), by kernel_rfl, by (try dsimp only); (refine FEnt.ent ?_; (repeat (first | exact FEnt.rfl | (refine FEnt.at 0 rfl ?_; (try simp only [List.eraseIdx_cons_zero, List.eraseIdx_cons_succ, List.eraseIdx_zero, List.tail_cons])) | (refine FEnt.at 1 rfl ?_; (try simp only [List.eraseIdx_cons_zero, List.eraseIdx_cons_succ, List.eraseIdx_zero, List.tail_cons])) | refine FEnt.drop ?_)); done), ⟨⟨by omega, by rw [List.length_append]; simp only [List.length_cons, List.length_nil]; omega⟩, g3, ⟨hc6, had6⟩⟩, by omega⟩
  · rw [List.drop_eq_nil_of_le (by omega)] at g3
    change ys ++ [] = R at g3
    rw [List.append_nil] at g3
    subst g3
    clear hwa hRR hm hsp
    conv => whnf
    repeat' ((with_reducible refine Br.df ?_ ?_); (focus (first | assumption | omega)); conv => whnf)
    all_goals first | (exfalso; omega) | exact Exs.of ((a1, c1) : Option Addr × Nat) (by (try dsimp only); (refine FEnt.ent ?_; (repeat (first | exact FEnt.rfl | (refine FEnt.at 0 rfl ?_; (try simp only [List.eraseIdx_cons_zero, List.eraseIdx_cons_succ, List.eraseIdx_zero, List.tail_cons])) | refine FEnt.drop ?_)); done)) ⟨g4, g5⟩ rfl
theorem drop_of {α : Type} {d : α} {R : List α} {k : Nat} {x : α} {r : List α} (h : x :: r = R.drop k) : k < R.length ∧ R.getD k d = x ∧ r = R.drop (k + 1) := by
  have hk : k < R.length := Classical.byContradiction fun hc => by rw [List.drop_eq_nil_of_le (by omega)] at h; cases h
  rw [List.drop_eq_getElem_cons hk] at h
  obtain ⟨h1, h2⟩ := List.cons.inj h
  exact ⟨hk, by rw [h1]; simp [List.getD, hk], h2⟩
theorem Tryd.asmLabelsW (s : ByteArray) (lf : List Ln) (R : List (ByteArray × Int)) (L : List HP) (hM : Tryd.Mx L) (hs : s.size ≤ 2000) (hlf : lf.length ≤ 3000) (hR : labF 0 lf = R)
    (h1 : ∀ L, Tryd.Mx L → Con Tryd.prog 10 [.string s] L (Exs (fun y : Option Addr × Nat => .tuple #[.slice y.1 R.length y.2, .int .i64 0, .int .i64 0]) (fun y => own labE 38 y.1 y.2 R :: L) (fun y => R.length ≤ y.2 ∧ Ad y.1 R.length)))
    (h2 : ∀ L, Con Tryd.prog 11 [.string s] L (Exs (fun y : LsV => .tuple #[.slice y.a y.v.length y.c, qI 0, qI 0]) (fun y => own lvE 36 y.a y.c y.v :: y.A :: L) (fun y => LsW y lf))) :
    Con Tryd.prog 5 [.string s] L (Is (.bool true) L) := by
  have hlv := fun L h => Tryd.asmLive L h
  refine con_of Tryd.tysOk Tryd.func5 rfl rfl ?_
  conv => whnf
  repeat' (first
    | (first | ((with_reducible refine Br.ff ?_); conv => whnf) | ((with_reducible refine Br.df ?_ ?_); (focus (first | assumption | omega)); conv => whnf) | ((with_reducible refine Br.ndf ?_ ?_); (focus (first | assumption | omega)); conv => whnf))
    | ((with_reducible refine Nd.mk ?_ ?_); (focus (first | omega | rfl | assumption | (simp; done))); conv => whnf)
    | (first | ((with_reducible refine Cl.exs (h1 _ (by ((repeat (first | assumption | apply Tryd.mxCons | apply Tryd.mxApp)); done))) (fun ⟨a1, c1⟩ ⟨v1, v2⟩ => ?_)); conv => whnf) | ((with_reducible refine Cl.exs (h2 _) (fun ⟨A, a, c, ys⟩ ⟨e1, e2, e3, e4, e5⟩ => ?_)); conv => whnf)))
  all_goals try (exfalso; omega)
  dsimp only at e1 e2 e3 e4 v1 v2
  subst e1
  clear h1 h2
  rw [List.length_map] at hlf
  conv => whnf
  refine Lp.by3 Tryd.tysOk [11, 9, 10] (fun (i : Nat) (k : Nat) (t : Int) => [.int .i64 i, .int .i64 k, .int .i64 t]) (fun i k t => own lvE 36 a c ys :: A :: own labE 38 a1 c1 R :: L) (fun i k t => (i ≤ ys.length ∧ k ≤ R.length ∧ k ≤ i ∧ 0 ≤ t ∧ t ≤ 6 * i) ∧ labF t ((lnsV ys).drop i) = R.drop k) (fun i k t => ys.length - i) (0) (0) (0) (by kernel_rfl) (by (exact Ent.rfl)) (⟨⟨by omega, by omega, by omega, by omega, by omega⟩, hR⟩) ?_
  rintro i k t ⟨⟨g1, g2, g6, g3, g4⟩, g5⟩
  conv => whnf
  repeat (intro _; conv => whnf)
  by_cases hi : i < ys.length
  · have hok := okAt rfl e5 i hi
    have hb := sz_bd hok
    have hn1 := hok.len
    have hn2 := hok.most
    have hsz := hok.sz
    have hrs := e4.s i hi
    rw [lns_at hi, labF] at g5
    have eL : szF (ys.getD i lvE.d).l = sumI (ys.getD i lvE.d).l.szs := rfl
    clear hlv hok hR e5 e4
    by_cases hl : (ys.getD i lvE.d).l.lab = noB
    · rw [if_pos hl] at g5
      have hl : (ys.getD i lvE.d).l.lab = (⟨#[]⟩ : ByteArray) := hl
      conv => whnf
      repeat' (first
        | (first | ((with_reducible refine Br.ndf ?_ ?_); (focus (first | assumption | omega)); conv => whnf) | ((with_reducible refine Br.yes ?_ ?_); (focus (first | (simp; done) | (simp; omega))); conv => whnf))
        | ((with_reducible refine Ix.ad ?_ ?_ ?_); (focus (assumption)); (focus ((simp only [List.length_append, List.length_cons, List.length_nil]); omega)); conv => whnf)
        | ((with_reducible apply Ld.rdk0); (focus ((repeat ((refine Rd.own 0 rfl ?_); (assumption))); done)); (focus rfl); (focus (omega)); (focus rfl); conv => whnf))
      conv => whnf
      refine Lp.by2 Tryd.tysOk [12, 10] (fun (j : Nat) (u : Int) => [.int .i64 j, .int .i64 u]) (fun j u => own lvE 36 a c ys :: A :: own labE 38 a1 c1 R :: L) (fun j u => (j ≤ (ys.getD i lvE.d).l.szs.length ∧ t ≤ u ∧ u ≤ t + 2 * j) ∧ u = t + sumI ((ys.getD i lvE.d).l.szs.take j)) (fun j u => (ys.getD i lvE.d).l.szs.length - j) (0) (t) (by kernel_rfl) (by (exact Ent.rfl)) (⟨⟨by omega, by omega, by omega⟩, by simp [sumI]⟩) ?_
      rintro j u ⟨⟨q1, q2, q3⟩, q4⟩
      conv => whnf
      repeat (intro _; conv => whnf)
      by_cases hj : j < (ys.getD i lvE.d).l.szs.length
      · have hx := hsz _ (getD_mem (d := numE.d) hj)
        have e := sumI_take hj
        change _ = sumI ((ys.getD i lvE.d).l.szs.take j) + (ys.getD i lvE.d).l.szs.getD j numE.d at e
        have e2 : u + (ys.getD i lvE.d).l.szs.getD j numE.d = t + sumI ((ys.getD i lvE.d).l.szs.take (j + 1)) := by omega
        clear q4 e hsz g5 eL
        conv => whnf
        repeat' (first
          | ((with_reducible refine Br.dt ?_ ?_); (focus (first | assumption | omega)); conv => whnf)
          | ((with_reducible refine Ar.i64 ?_ ?_); (focus omega); conv => whnf)
          | ((with_reducible refine Ix.ad ?_ ?_ ?_); (focus (first | assumption | exact Rd.ad (by assumption))); (focus (first | omega | ((simp only [List.length_append, List.length_cons, List.length_nil]); omega))); conv => whnf)
          | ((first | (with_reducible apply Ld.rdk) | (with_reducible apply Ld.rdk0)); (focus ((repeat (first | exact Rd.hd (by assumption) | ((refine Rd.own 0 rfl ?_); (assumption)) | apply Rd.cons)); done)); (focus rfl); (focus (omega)); (focus rfl); conv => whnf))
        all_goals first | (exfalso; omega) | exact ⟨j + 1, u + (ys.getD i lvE.d).l.szs.getD j numE.d, by kernel_rfl, by (exact Ent.rfl), ⟨⟨by omega, by omega, by omega⟩, e2⟩, by omega⟩
      · rw [List.take_of_length_le (by omega), ← eL] at q4
        rw [← q4] at g5
        clear hsz eL
        conv => whnf
        repeat' (first
          | ((with_reducible refine Br.df ?_ ?_); (focus (first | assumption | omega)); conv => whnf)
          | ((with_reducible refine Ar.i64 ?_ ?_); (focus omega); conv => whnf)
          | ((with_reducible refine Ix.ad ?_ ?_ ?_); (focus (assumption)); (focus ((simp only [List.length_append, List.length_cons, List.length_nil]); omega)); conv => whnf)
          | ((with_reducible apply Ld.rdk); (focus ((repeat ((refine Rd.own 0 rfl ?_); (assumption))); done)); (focus rfl); (focus (omega)); (focus rfl); conv => whnf))
        all_goals first | (exfalso; omega) | exact ⟨i + 1, k, u, by kernel_rfl, by (exact Ent.rfl), ⟨⟨by omega, by omega, by omega, by omega, by omega⟩, g5⟩, by omega⟩
    · rw [if_neg hl] at g5
      have hl : ¬ (ys.getD i lvE.d).l.lab = (⟨#[]⟩ : ByteArray) := hl
      obtain ⟨k1, k2, k3⟩ := drop_of (d := labE.d) g5
      have k4 : (R.getD k labE.d).1 = (ys.getD i lvE.d).l.lab := by rw [k2]
      have k5 : (R.getD k labE.d).2 = t := by rw [k2]
      clear g5 k2
      conv => whnf
      repeat' (first
        | (first | ((with_reducible refine Br.ff ?_); conv => whnf) | ((with_reducible refine Br.df ?_ ?_); (focus (first | assumption | omega)); conv => whnf) | ((with_reducible refine Br.ndt ?_ ?_); (focus (first | assumption | omega)); conv => whnf) | ((with_reducible refine Br.yes ?_ ?_); (focus (first | (simp; done) | (simp; omega))); conv => whnf))
        | ((with_reducible refine Ar.i64 ?_ ?_); (focus omega); conv => whnf)
        | ((with_reducible refine Nd.mk ?_ ?_); (focus (first | omega | rfl | assumption | (simp; done))); conv => whnf)
        | ((with_reducible refine Ix.ad ?_ ?_ ?_); (focus (assumption)); (focus (first | omega | ((simp only [List.length_append, List.length_cons, List.length_nil]); omega))); conv => whnf)
        | ((with_reducible apply Ld.rdk0); (focus ((repeat ((refine Rd.own 0 rfl ?_); (assumption))); done)); (focus rfl); (focus (omega)); (focus rfl); conv => whnf)
        | ((with_reducible apply LdN.rdk); (focus ((repeat ((refine Rd.own 2 rfl ?_); (assumption))); done)); (focus rfl); (focus rfl); (focus (omega)); conv => whnf)
        | ((with_reducible refine Dr.by (id := 14) Tryd.tysOk rfl [(0, 0), (1, 0), (2, 0), (3, 0), (4, 0), (5, 0), (6, 0), (7, 0), (9, 0), (10, 0), (11, 0), (12, 0), (14, 0), (8, 1), (13, 1), (15, 0), (16, 0), (17, 0)] ?_ ?_); (focus kernel_rfl); conv => whnf)
        | ((with_reducible refine Br.nds (fun _ => ?_) (fun _ => ?_) ) <;> (conv => whnf)))
      all_goals try (exfalso; omega)
      all_goals try (rename_i hh; exact (hh ⟨k4, k5⟩).elim)
      conv => whnf
      refine Lp.by2 Tryd.tysOk [12, 10] (fun (j : Nat) (u : Int) => [.int .i64 j, .int .i64 u]) (fun j u => own lvE 36 a c ys :: A :: own labE 38 a1 c1 R :: L) (fun j u => (j ≤ (ys.getD i lvE.d).l.szs.length ∧ t ≤ u ∧ u ≤ t + 2 * j) ∧ u = t + sumI ((ys.getD i lvE.d).l.szs.take j)) (fun j u => (ys.getD i lvE.d).l.szs.length - j) (0) (t) (by kernel_rfl) (by (exact Ent.rfl)) (⟨⟨by omega, by omega, by omega⟩, by simp [sumI]⟩) ?_
      rintro j u ⟨⟨q1, q2, q3⟩, q4⟩
      conv => whnf
      repeat (intro _; conv => whnf)
      by_cases hj : j < (ys.getD i lvE.d).l.szs.length
      · have hx := hsz _ (getD_mem (d := numE.d) hj)
        have e := sumI_take hj
        change _ = sumI ((ys.getD i lvE.d).l.szs.take j) + (ys.getD i lvE.d).l.szs.getD j numE.d at e
        have e2 : u + (ys.getD i lvE.d).l.szs.getD j numE.d = t + sumI ((ys.getD i lvE.d).l.szs.take (j + 1)) := by omega
        clear q4 e hsz k3 eL
        conv => whnf
        repeat' (first
          | ((with_reducible refine Br.dt ?_ ?_); (focus (first | assumption | omega)); conv => whnf)
          | ((with_reducible refine Ar.i64 ?_ ?_); (focus omega); conv => whnf)
          | ((with_reducible refine Ix.ad ?_ ?_ ?_); (focus (first | assumption | exact Rd.ad (by assumption))); (focus (first | omega | ((simp only [List.length_append, List.length_cons, List.length_nil]); omega))); conv => whnf)
          | ((first | (with_reducible apply Ld.rdk) | (with_reducible apply Ld.rdk0)); (focus ((repeat (first | exact Rd.hd (by assumption) | ((refine Rd.own 0 rfl ?_); (assumption)) | apply Rd.cons)); done)); (focus rfl); (focus (omega)); (focus rfl); conv => whnf))
        all_goals first | (exfalso; omega) | exact ⟨j + 1, u + (ys.getD i lvE.d).l.szs.getD j numE.d, by kernel_rfl, by (exact Ent.rfl), ⟨⟨by omega, by omega, by omega⟩, e2⟩, by omega⟩
      · rw [List.take_of_length_le (by omega), ← eL] at q4
        rw [← q4] at k3
        clear hsz eL
        conv => whnf
        repeat' (first
          | ((with_reducible refine Br.df ?_ ?_); (focus (first | assumption | omega)); conv => whnf)
          | ((with_reducible refine Ar.i64 ?_ ?_); (focus omega); conv => whnf)
          | ((with_reducible refine Ix.ad ?_ ?_ ?_); (focus (assumption)); (focus ((simp only [List.length_append, List.length_cons, List.length_nil]); omega)); conv => whnf)
          | ((with_reducible apply Ld.rdk); (focus ((repeat ((refine Rd.own 0 rfl ?_); (assumption))); done)); (focus rfl); (focus (omega)); (focus rfl); conv => whnf))
        all_goals first | (exfalso; omega) | exact ⟨i + 1, k + 1, u, by kernel_rfl, by (exact Ent.rfl), ⟨⟨by omega, by omega, by omega, by omega, by omega⟩, k3⟩, by omega⟩
  · have e0 : i = ys.length := by omega
    rw [List.drop_eq_nil_of_le (by rw [List.length_map]; omega), labF] at g5
    have e1 : k = R.length := by
      have := congrArg List.length g5
      rw [List.length_drop, List.length_nil] at this
      omega
    clear g5 e4 e5 hR
    conv => whnf
    repeat' (first
      | (first | ((with_reducible refine Br.tt ?_); conv => whnf) | ((with_reducible refine Br.no ?_ ?_); (focus (first | (simp; done) | (simp; omega))); conv => whnf))
      | ((with_reducible refine Cl.is (hlv _ (by ((repeat (first | assumption | apply Tryd.mxCons | apply Tryd.mxApp)); done))) ?_); conv => whnf))
    all_goals first | (exfalso; omega) | (refine Is.ent ?_ ?_; (focus (refine FEnt.ent ?_; (repeat (first | exact FEnt.rfl | refine FEnt.drop ?_)); done)); (exact Is.ttr (by first | assumption | omega)))
theorem Tryd.asmLabelsLaw (s : ByteArray) (L : List HP) (hM : Tryd.Mx L) : Con Tryd.prog 5 [.string s] L (Is (.bool true) L) := by
  by_cases h3 : s.size ≤ 2000
  · have hls := fun L => Tryd.refLines s L (by omega)
    obtain ⟨l1, l2⟩ := lines_of s.data.toList
    have hq := (spl_sz 10 s).2.1
    cases hR : txF X0 (splL 10 s.data.toList) with
    | done bs labs =>
      have e := l1 bs labs hR
      rw [e] at hls
      obtain ⟨t1, t2⟩ := tx_labs (splL 10 s.data.toList) [] (fun l hl => by simp at hl) (by decide) hR
      rw [List.nil_append] at t1
      have t3 := lb_all t1 (fun pre x post he hx => by have := t2 pre x post he hx; rwa [List.nil_append] at this) (splL 10 s.data.toList) [] rfl
      exact Tryd.asmLabelsW s _ _ L hM h3 (by rw [List.length_map]; omega) rfl (fun L h => Tryd.asmLabels s bs labs _ L (by omega) h hR t3) hls
    | fail ln e =>
      obtain ⟨a1, a2, a3⟩ := l2 ln e hR
      have hlb := fun L h => Tryd.asmLabelsNo s ln e L (by omega) h a3 hR
      have hlv := fun L h => Tryd.asmLive L h
      clear l1 l2 hR
      generalize linesF s.data.toList = Z at *
      obtain ⟨lf, nf, ef⟩ := Z
      dsimp only at a1 a2
      subst a1
      subst a2
      change ∀ L, Con Tryd.prog 11 [.string s] L (Exs (fun y : LsV => .tuple #[.slice y.a y.v.length y.c, qI nf, qI ef]) (fun y => own lvE 36 y.a y.c y.v :: y.A :: L) (fun y => LsW y lf)) at hls
      refine con_of Tryd.tysOk Tryd.func5 rfl rfl ?_
      conv => whnf
      repeat' (first
        | (first | ((with_reducible refine Br.tt ?_); conv => whnf) | ((with_reducible refine Br.ff ?_); conv => whnf) | ((with_reducible refine Br.df ?_ ?_); (focus (first | assumption | omega)); conv => whnf) | ((with_reducible refine Br.ndt ?_ ?_); (focus (first | assumption | omega)); conv => whnf) | ((with_reducible refine Br.ndf ?_ ?_); (focus (first | assumption | omega)); conv => whnf))
        | ((with_reducible refine Nd.mk ?_ ?_); (focus (first | omega | rfl | assumption | (simp; done))); conv => whnf)
        | (first | ((with_reducible refine Cl.is (hlb _ (by ((repeat (first | assumption | apply Tryd.mxCons | apply Tryd.mxApp)); done))) ?_); conv => whnf) | ((with_reducible refine Cl.exs (hls _) (fun ⟨A, a, c, ys⟩ ⟨e1, e2, e3, e4, e5⟩ => ?_)); conv => whnf) | ((with_reducible refine Cl.is (hlv _ (by ((repeat (first | assumption | apply Tryd.mxCons | apply Tryd.mxApp)); done))) ?_); conv => whnf)))
      all_goals first | (exfalso; omega) | (refine Is.ent ?_ ?_; (focus (refine FEnt.ent ?_; (repeat (first | exact FEnt.rfl | refine FEnt.drop ?_)); done)); (exact Is.rfl))
  · have hlv := fun L h => Tryd.asmLive L h
    refine con_of Tryd.tysOk Tryd.func5 rfl rfl ?_
    conv => whnf
    repeat' (first
      | ((with_reducible refine Br.dt ?_ ?_); (focus (first | assumption | omega)); conv => whnf)
      | ((with_reducible refine Cl.is (hlv _ (by ((repeat (first | assumption | apply Tryd.mxCons | apply Tryd.mxApp)); done))) ?_); conv => whnf))
    all_goals first | (refine Is.ent ?_ ?_; (focus (exact Ent.rfl)); (exact Is.rfl)) | (exfalso; omega)
end Go.Proofs
