/- The assembler: a line is read: contracts. -/
import Derived.Test.YtloaknocdnpedaaDoorAsmK
set_option linter.all false
namespace Go.Proofs
open Go.Eng Go.RowKit Go.MapKept
open Classical
set_option linter.unusedVariables false
set_option maxRecDepth 100000
set_option maxHeartbeats 4000000
theorem suf_58 (w : ByteArray) : Lib.hasSuffix w.data.toList [58] = decide (1 ≤ w.size ∧ (sAt w (w.size - 1)).toNat = 58) := by
  have hl := size_list w
  by_cases h : w.data.toList = []
  · have h0 : w.size = 0 := by rw [← hl, h]; rfl
    rw [h, decide_eq_false (by omega)]
    rfl
  · obtain ⟨xs, x, e⟩ := snoc_of h
    have hs : w.size = xs.length + 1 := by rw [← hl, e, List.length_append]; rfl
    have hx : sAt w (w.size - 1) = x := by
      show w.data.toList.getD (w.size - 1) 0 = x
      rw [e, hs]
      simp [List.getD]
    rw [hx, e]
    unfold Lib.hasSuffix List.isSuffixOf
    rw [List.reverse_append]
    simp only [List.reverse_cons, List.reverse_nil, List.nil_append, List.cons_append, List.isPrefixOf, Bool.and_true]
    by_cases h58 : x = 58
    · subst h58; rw [decide_eq_true ⟨by omega, rfl⟩]; rfl
    · have hn : ¬ x.toNat = 58 := fun h => h58 (UInt8.toNat_inj.1 (by rw [h]; rfl))
      rw [decide_eq_false (fun h => hn h.2)]
      simpa using fun h => h58 h.symm
theorem trim_58 (w : ByteArray) (h : Lib.hasSuffix w.data.toList [58] = true) : (⟨(Lib.trimSuffix w.data.toList [58]).toArray⟩ : ByteArray) = w.extract 0 (w.size - 1) := by
  unfold Lib.trimSuffix
  rw [if_pos h, size_list]
  exact (ext_pre w.data.toList (w.size - 1)).symm
theorem Tryd.cutSuf (w : ByteArray) (L : List HP) (hs : w.size ≤ 1000000000) : Con Tryd.prog 53 [.string w, .string ⟨#[58]⟩] L (Is (.tuple #[.string ⟨(Lib.trimSuffix w.data.toList [58]).toArray⟩, .bool (Lib.hasSuffix w.data.toList [58])]) L) :=
  Con.lib ⟨_, Tryd.func53, by kernel_rfl, by kernel_rfl⟩ fun v s => (Tryd.strings_CutSuffix w ⟨#[58]⟩ v (by omega)).mono fun e w' h => ⟨h.1, by rw [h.2]; exact Below.refl _ _⟩
theorem Tryd.asmIsOpen {f : FuncId} {args : List Value} {o : Nat} {X Y : Aob} {v : Value} {L : List HP} (c : Con Tryd.prog f args (Tryd.asmH o X :: L) (Is v (Tryd.asmH o Y :: L))) :
    Con Tryd.prog f args (Tryd.asmH o X :: L) (Exs (fun y : Option Addr × Nat × Nat × Option Addr × Nat => v) (fun y => ptc o 63 (Tryd.asmC y.1 Y.bs.length y.2.1 y.2.2.1 y.2.2.2.1 Y.uses.length y.2.2.2.2 Y.line) :: own u8E 5 y.1 y.2.1 Y.bs :: mapH y.2.2.1 .string (labV Y.labs) :: own useE 92 y.2.2.2.1 y.2.2.2.2 Y.uses :: L)
      (fun y => Y.bs.length ≤ y.2.1 ∧ Ad y.1 Y.bs.length ∧ Y.uses.length ≤ y.2.2.2.2 ∧ Ad y.2.2.2.1 Y.uses.length)) := by
  refine ⟨c.ent, fun w s => (c.run w s).mono fun e w' h => ?_⟩
  cases e with
  | returned u =>
    obtain ⟨L', s', hi⟩ := h
    obtain ⟨c0, ⟨h1, h2, rfl, ⟨a, c, mb, a', c', hv, hp⟩, hl⟩, ok⟩ := hi.l w' s'
    exact ⟨_, ⟨_, (parts_append (L := [_, _, _, _])).2 ⟨h1, h2, rfl, hp, hl⟩, ok⟩, (a, c, mb, a', c'), hv, hi.v, Ent.rfl⟩
  | panicked ch => obtain ⟨_, _, r⟩ := h; exact r.elim
  | outgrown => exact h
theorem addU_mk (X : Aob) (w : ByteArray) (k : Int) : addU X w k = ⟨X.bs, X.labs, (addU X w k).uses, X.line⟩ := by
  unfold addU
  split <;> rfl
theorem addU_len (X : Aob) (w : ByteArray) (k : Int) : (addU X w k).uses.length ≤ X.uses.length + 1 := by
  unfold addU
  split
  · omega
  · simp
/-- what a line turns -/
def rdX (X : Aob) (l : Ln) : Aob := if l.lab = noB then ⟨X.bs ++ lnZb l, X.labs, (addU X l.nam (szF l - 2)).uses, X.line⟩ else ⟨X.bs, X.labs ++ [(l.lab, (X.bs.length : Int))], X.uses, X.line⟩
theorem wln_lab (ws : List ByteArray) : wlnF ws = if ws.length = 1 ∧ labP (wat ws 0) then ⟨(wat ws 0).extract 0 ((wat ws 0).size - 1), [], [], noB, false⟩ else bytF ws := rfl
theorem byt_lab (ws : List ByteArray) : (bytF ws).lab = noB := by
  have hv : ∀ l w, (valF l w).lab = l.lab := fun l w => by unfold valF; split <;> rfl
  unfold bytF
  split
  · rfl
  · split
    · rw [hv]; rfl
    · split
      · unfold insF
        split
        · split
          · rw [hv]
          · rfl
        · split
          · split
            · rw [hv]
            · rfl
          · split
            · split
              · rfl
              · split
                · rfl
                · rw [hv]
            · rfl
      · rfl
theorem Tryd.asmReadLab (o : Nat) (X : Aob) (s : ByteArray) (ws : List ByteArray) (w0 : ByteArray) (L : List HP) (hne : ¬ s = ⟨#[]⟩) (h35 : ¬ ((sAt s 0).toNat : Int) = 35) (hs1 : 1 ≤ s.size) (hN : ws.length ≤ 100000) (h1 : 1 ≤ ws.length) (hs : ∀ i, (ws.getD i strE.d).size ≤ 1000000)
    (hw0 : ws.getD (Int.toNat 0) strE.d = w0) (hsp : ∀ L, Tryd.Mx L → Con Tryd.prog 44 [.string s, .string ⟨#[32]⟩] L (New strE 9 ws L)) (hM : Tryd.Mx L) (hb : X.bs.length ≤ 1024) (hu : X.uses.length ≤ 100000) (hA : ws.length = 1 ∧ labP w0) (hno : ∀ p ∈ X.labs, p.1 ≠ w0.extract 0 (w0.size - 1)) :
    Con Tryd.prog 45 [p64 o, .string s] (Tryd.asmH o X :: L) (Is (.tuple #[]) (Tryd.asmH o ⟨X.bs, X.labs ++ [(w0.extract 0 (w0.size - 1), (X.bs.length : Int))], X.uses, X.line⟩ :: L)) := by
  have z0 : w0.size ≤ 1000000 := by rw [← hw0]; exact hs _
  have x0 : wat ws 0 = w0 := hw0
  have hcs := fun L => Tryd.cutSuf w0 L (by omega)
  rw [suf_58] at hcs
  obtain ⟨a1, a2, a3, a4⟩ := hA
  rw [decide_eq_true ⟨by omega, a3⟩, trim_58 w0 (by rw [suf_58]; exact decide_eq_true ⟨by omega, a3⟩)] at hcs
  have hin := fun L => Con.dt a4 (Tryd.asmIsName (w0.extract 0 (w0.size - 1)) L (by rw [ByteArray.size_extract]; omega))
  generalize w0.extract 0 (w0.size - 1) = nm at *
  clear hs a3 a4 x0
  refine Tryd.asmOpen ⟨_, Tryd.func45, by kernel_rfl, by kernel_rfl⟩ fun a c mb a' c' v1 v2 v3 v4 => ?_
  obtain ⟨bs, labs, us, line⟩ := X
  dsimp only at *
  have hno2 : ∀ p ∈ labV labs, p.1 ≠ .string nm := fun p hp => by
    obtain ⟨q, hq, rfl⟩ := List.mem_map.1 hp
    intro h
    exact hno q hq (Value.string.inj h)
  have hlv : labV labs ++ [(.string nm, .int .i64 (bs.length : Int))] = labV (labs ++ [(nm, (bs.length : Int))]) := by simp [labV]
  refine con_of Tryd.tysOk Tryd.func45 rfl rfl ?_
  conv => whnf
  repeat' (first
    | (first | ((with_reducible refine Br.tt ?_); conv => whnf) | ((with_reducible refine Br.ff ?_); conv => whnf) | ((with_reducible refine Br.dt ?_ ?_); (focus (first | assumption | omega)); conv => whnf) | ((with_reducible refine Br.df ?_ ?_); (focus (first | assumption | omega)); conv => whnf))
    | ((with_reducible refine Nd.mk ?_ ?_); (focus (first | omega | rfl | assumption | (simp; done))); conv => whnf)
    | ((with_reducible refine Ix.ad ?_ ?_ ?_); (focus (assumption)); (focus (omega)); conv => whnf)
    | ((with_reducible refine SIx.mk' ?_ ?_); (focus (omega)); conv => whnf)
    | (first | ((apply Ld.rd0); (focus ((repeat ((refine Rd.own 0 rfl ?_); (assumption))); done)); (focus rfl); (focus (omega)); (focus rfl); conv => whnf) | (refine Ld.at 1 rfl rfl ?_; conv => whnf))
    | ((with_reducible refine Dr.by (id := 7) Tryd.tysOk rfl [(0, 0), (1, 0), (2, 0), (4, 0), (5, 0), (6, 0), (7, 0), (3, 1), (8, 1), (9, 0), (10, 3)] ?_ ?_); (focus kernel_rfl); conv => whnf)
    | ((with_reducible refine (?_ : Sm _ (Instr.lookup _ _ _ _) _ _)); (refine Sm.lkNo Tryd.tysOk 3 rfl rfl rfl rfl rfl rfl (by first | exact rfl | exact trivial) (hno2) ?_; conv => whnf))
    | ((with_reducible refine (?_ : Sm _ (Instr.mapUpdate _ _ _ _ >>= _) _ _)); (refine Sm.putNew Tryd.tysOk 3 rfl rfl rfl rfl rfl (by first | exact rfl | exact trivial) (hno2) ?_; conv => whnf))
    | (first | ((with_reducible refine Cl.new (hsp _ (by ((repeat (first | assumption | apply Tryd.mxCons | apply Tryd.mxApp)); done))) (fun _ _ _ _ => ?_)); conv => whnf) | ((with_reducible refine Cl.is (hcs _) ?_); conv => whnf) | ((with_reducible refine Cl.is (hin _) ?_); conv => whnf))
    | ((rw [hw0]); conv => whnf)
    | ((rw [hlv]); conv => whnf))
  all_goals first | (exfalso; omega) | (refine Is.ent ?_ ?_; (focus (refine FEnt.ent ?_; (repeat (first | exact FEnt.rfl | (refine FEnt.at 1 rfl ?_; (try simp only [List.eraseIdx_cons_zero, List.eraseIdx_cons_succ, List.eraseIdx_zero, List.tail_cons])) | (apply Tryd.asmShut) | refine FEnt.drop ?_ | rfl | assumption)); done)); (exact Is.rfl))
theorem Tryd.asmReadTwice (o : Nat) (X : Aob) (s : ByteArray) (ws : List ByteArray) (w0 : ByteArray) (L : List HP) (hne : ¬ s = ⟨#[]⟩) (h35 : ¬ ((sAt s 0).toNat : Int) = 35) (hs1 : 1 ≤ s.size) (hN : ws.length ≤ 100000) (h1 : 1 ≤ ws.length) (hs : ∀ i, (ws.getD i strE.d).size ≤ 1000000)
    (hw0 : ws.getD (Int.toNat 0) strE.d = w0) (hsp : ∀ L, Tryd.Mx L → Con Tryd.prog 44 [.string s, .string ⟨#[32]⟩] L (New strE 9 ws L)) (hM : Tryd.Mx L) (hb : X.bs.length ≤ 1024) (hu : X.uses.length ≤ 100000) (hA : ws.length = 1 ∧ labP w0) (j : Nat) (v : Int) (hj : X.labs[j]? = some (w0.extract 0 (w0.size - 1), v)) :
    Con Tryd.prog 45 [p64 o, .string s] (Tryd.asmH o X :: L) (fun _ _ => False) (Tryd.PanX 14 (Tryd.asmL o X.line :: L)) := by
  have z0 : w0.size ≤ 1000000 := by rw [← hw0]; exact hs _
  have x0 : wat ws 0 = w0 := hw0
  have hcs := fun L => Tryd.cutSuf w0 L (by omega)
  rw [suf_58] at hcs
  obtain ⟨a1, a2, a3, a4⟩ := hA
  rw [decide_eq_true ⟨by omega, a3⟩, trim_58 w0 (by rw [suf_58]; exact decide_eq_true ⟨by omega, a3⟩)] at hcs
  have hin := fun L => Con.dt a4 (Tryd.asmIsName (w0.extract 0 (w0.size - 1)) L (by rw [ByteArray.size_extract]; omega))
  generalize w0.extract 0 (w0.size - 1) = nm at *
  clear hs a3 a4 x0
  refine Tryd.asmOpen ⟨_, Tryd.func45, by kernel_rfl, by kernel_rfl⟩ fun a c mb a' c' v1 v2 v3 v4 => ?_
  obtain ⟨bs, labs, us, line⟩ := X
  dsimp only at *
  have hj2 : (labV labs)[j]? = some (.string nm, .int .i64 v) := by rw [labV, List.getElem?_map, hj]; rfl
  refine con_of Tryd.tysOk Tryd.func45 rfl rfl ?_
  conv => whnf
  repeat' (first
    | (first | ((with_reducible refine Br.tt ?_); conv => whnf) | ((with_reducible refine Br.ff ?_); conv => whnf) | ((with_reducible refine Br.dt ?_ ?_); (focus (first | assumption | omega)); conv => whnf) | ((with_reducible refine Br.df ?_ ?_); (focus (first | assumption | omega)); conv => whnf))
    | ((with_reducible refine Nd.mk ?_ ?_); (focus (first | omega | rfl | assumption | (simp; done))); conv => whnf)
    | ((with_reducible refine Ix.ad ?_ ?_ ?_); (focus (assumption)); (focus (omega)); conv => whnf)
    | ((with_reducible refine SIx.mk' ?_ ?_); (focus (omega)); conv => whnf)
    | (first | ((apply Ld.rd0); (focus ((repeat ((refine Rd.own 0 rfl ?_); (assumption))); done)); (focus rfl); (focus (omega)); (focus rfl); conv => whnf) | (refine Ld.at 1 rfl rfl ?_; conv => whnf))
    | ((with_reducible refine (?_ : Sm _ (Instr.lookup _ _ _ _) _ _)); (refine Sm.lkYes Tryd.tysOk 3 rfl rfl rfl rfl rfl (by first | exact rfl | exact trivial) _ (hj2) ?_; conv => whnf))
    | (first | ((with_reducible refine Cl.new (hsp _ (by ((repeat (first | assumption | apply Tryd.mxCons | apply Tryd.mxApp)); done))) (fun _ _ _ _ => ?_)); conv => whnf) | ((with_reducible refine Cl.is (hcs _) ?_); conv => whnf) | ((with_reducible refine Cl.is (hin _) ?_); conv => whnf) | ((with_reducible refine (?_ : Cl _ 46 _ _ _ _)); (refine Cl.pan (Tryd.asmGive _ _) (fun ch L' h => ?_)); conv => whnf))
    | ((rw [hw0]); conv => whnf))
  all_goals first | (exfalso; omega) | exact ⟨h.ch, fun w s => Tryd.asmForget (X := ⟨bs, labs, us, line⟩) w ((by (refine FEnt.ent ?_; (repeat (first | exact FEnt.rfl | (refine FEnt.at 1 rfl ?_; (try simp only [List.eraseIdx_cons_zero, List.eraseIdx_cons_succ, List.eraseIdx_zero, List.tail_cons])) | (apply Tryd.asmShut) | refine FEnt.drop ?_ | rfl | assumption)); done) : Ent _ (Tryd.asmH o ⟨bs, labs, us, line⟩ :: L)) w (h.l w s))⟩
theorem Tryd.asmReadByt (o : Nat) (X : Aob) (s : ByteArray) (ws : List ByteArray) (w0 : ByteArray) (L : List HP) (hne : ¬ s = ⟨#[]⟩) (h35 : ¬ ((sAt s 0).toNat : Int) = 35) (hs1 : 1 ≤ s.size) (hN : ws.length ≤ 100000) (h1 : 1 ≤ ws.length) (hs : ∀ i, (ws.getD i strE.d).size ≤ 1000000)
    (hw0 : ws.getD (Int.toNat 0) strE.d = w0) (hsp : ∀ L, Tryd.Mx L → Con Tryd.prog 44 [.string s, .string ⟨#[32]⟩] L (New strE 9 ws L)) (hM : Tryd.Mx L) (hb : X.bs.length ≤ 1024) (hu : X.uses.length ≤ 100000) (hA : ¬ (ws.length = 1 ∧ labP w0)) (hg : (bytF ws).bad = false) (hlim : X.bs.length + (lnZb (bytF ws)).length ≤ 1024) :
    Con Tryd.prog 45 [p64 o, .string s] (Tryd.asmH o X :: L) (Is (.tuple #[]) (Tryd.asmH o ⟨X.bs ++ lnZb (bytF ws), X.labs, (addU X (bytF ws).nam (szF (bytF ws) - 2)).uses, X.line⟩ :: L)) := by
  have z0 : w0.size ≤ 1000000 := by rw [← hw0]; exact hs _
  have x0 : wat ws 0 = w0 := hw0
  have hcs := fun L => Tryd.cutSuf w0 L (by omega)
  rw [suf_58] at hcs
  have hby := fun aw cw L h => Tryd.asmIsOpen (Tryd.asmBytes o X aw cw ws w0 _ L h hN h1 hs hw0 rfl hb hu hg)
  rw [addU_mk] at hby
  have hul := addU_len X (bytF ws).nam (szF (bytF ws) - 2)
  have hz : (bsL (lnZb (bytF ws))).size = (lnZb (bytF ws)).length := rfl
  refine Tryd.asmOpen ⟨_, Tryd.func45, by kernel_rfl, by kernel_rfl⟩ fun a c mb a' c' v1 v2 v3 v4 => ?_
  obtain ⟨bs, labs, us, line⟩ := X
  dsimp only at *
  generalize (addU ⟨bs, labs, us, line⟩ (bytF ws).nam (szF (bytF ws) - 2)).uses = us2 at *
  generalize lnZb (bytF ws) = zs at *
  clear hs x0 hg
  have hnl : ¬ (1 ≤ w0.size ∧ (sAt w0 (w0.size - 1)).toNat = 58) ∨ ((1 ≤ w0.size ∧ (sAt w0 (w0.size - 1)).toNat = 58) ∧ ws.length ≠ 1) ∨ ((1 ≤ w0.size ∧ (sAt w0 (w0.size - 1)).toNat = 58) ∧ ws.length = 1 ∧ ¬ Ltrs (w0.extract 0 (w0.size - 1))) := by
    by_cases h1 : 1 ≤ w0.size ∧ (sAt w0 (w0.size - 1)).toNat = 58
    · by_cases h2 : ws.length = 1
      · refine .inr (.inr ⟨h1, h2, fun h3 => hA ⟨h2, ?_, h1.2, h3⟩⟩)
        have := h3.ge
        rw [ByteArray.size_extract] at this
        omega
      · exact .inr (.inl ⟨h1, h2⟩)
    · exact .inl h1
  clear hA
  rcases hnl with h3 | ⟨h3, h4⟩ | ⟨h3, h4, h5⟩
  · rw [decide_eq_false h3] at hcs
    clear h3
    refine con_of Tryd.tysOk Tryd.func45 rfl rfl ?_
    conv => whnf
    repeat' (first
      | (first | ((with_reducible refine Br.ff ?_); conv => whnf) | ((with_reducible refine Br.df ?_ ?_); (focus (first | assumption | omega)); conv => whnf))
      | ((with_reducible refine Ar.i64 ?_ ?_); (focus omega); conv => whnf)
      | ((with_reducible refine Nd.mk ?_ ?_); (focus (first | omega | rfl | assumption | (simp; done))); conv => whnf)
      | ((with_reducible refine Ix.ad ?_ ?_ ?_); (focus (assumption)); (focus (omega)); conv => whnf)
      | ((with_reducible refine SIx.mk' ?_ ?_); (focus (omega)); conv => whnf)
      | (first | ((apply Ld.rd0); (focus ((repeat ((refine Rd.own 0 rfl ?_); (assumption))); done)); (focus rfl); (focus (omega)); (focus rfl); conv => whnf) | (refine Ld.at 0 rfl rfl ?_; conv => whnf))
      | (refine St.at 1 rfl (by first | exact Nat.le_of_ble_eq_true rfl | (simp; done)) rfl ?_; conv => whnf)
      | (first | ((with_reducible refine Cl.new (hsp _ (by ((repeat (first | assumption | apply Tryd.mxCons | apply Tryd.mxApp)); done))) (fun _ _ _ _ => ?_)); conv => whnf) | ((with_reducible refine Cl.is (hcs _) ?_); conv => whnf) | (apply (Cl.pre [Tryd.asmH o ⟨bs, labs, us, line⟩]); (focus ((repeat (first | exact FEnt.rfl | (refine FEnt.at 1 rfl ?_; (try simp only [List.eraseIdx_cons_zero, List.eraseIdx_cons_succ, List.eraseIdx_zero, List.tail_cons])) | (apply Tryd.asmShut) | rfl | assumption)); done)); refine Cl.exs (hby _ _ _ (by ((repeat ((refine Rd.own 0 rfl ?_); (assumption))); done))) ?_; rintro ⟨a5, c5, mb5, a6, c6⟩ ⟨u1, u2, u3, u4⟩; conv => whnf))
      | ((rw [hw0]); conv => whnf)
      | ((refine Sm.appStrAt Tryd.tysOk 1 rfl rfl rfl rfl rfl rfl rfl rfl rfl (by (try dsimp only); omega) (fun a7 c7 hc7 had7 => ?_)); conv => whnf))
    all_goals first | (exfalso; omega) | (refine Is.ent ?_ ?_; (focus (refine FEnt.ent ?_; (repeat (first | exact FEnt.rfl | (refine FEnt.at 0 rfl ?_; (try simp only [List.eraseIdx_cons_zero, List.eraseIdx_cons_succ, List.eraseIdx_zero, List.tail_cons])) | (refine FEnt.at 1 rfl ?_; (try simp only [List.eraseIdx_cons_zero, List.eraseIdx_cons_succ, List.eraseIdx_zero, List.tail_cons])) | (apply Tryd.asmShut) | refine FEnt.drop ?_ | rfl | assumption)); done)); (exact Is.rfl))
  · rw [decide_eq_true h3] at hcs
    clear h3
    refine con_of Tryd.tysOk Tryd.func45 rfl rfl ?_
    conv => whnf
    repeat' (first
      | (first | ((with_reducible refine Br.tt ?_); conv => whnf) | ((with_reducible refine Br.ff ?_); conv => whnf) | ((with_reducible refine Br.df ?_ ?_); (focus (first | assumption | omega)); conv => whnf))
      | ((with_reducible refine Ar.i64 ?_ ?_); (focus omega); conv => whnf)
      | ((with_reducible refine Nd.mk ?_ ?_); (focus (first | omega | rfl | assumption | (simp; done))); conv => whnf)
      | ((with_reducible refine Ix.ad ?_ ?_ ?_); (focus (assumption)); (focus (omega)); conv => whnf)
      | ((with_reducible refine SIx.mk' ?_ ?_); (focus (omega)); conv => whnf)
      | (first | ((apply Ld.rd0); (focus ((repeat ((refine Rd.own 0 rfl ?_); (assumption))); done)); (focus rfl); (focus (omega)); (focus rfl); conv => whnf) | (refine Ld.at 0 rfl rfl ?_; conv => whnf))
      | (refine St.at 1 rfl (by first | exact Nat.le_of_ble_eq_true rfl | (simp; done)) rfl ?_; conv => whnf)
      | (first | ((with_reducible refine Cl.new (hsp _ (by ((repeat (first | assumption | apply Tryd.mxCons | apply Tryd.mxApp)); done))) (fun _ _ _ _ => ?_)); conv => whnf) | ((with_reducible refine Cl.is (hcs _) ?_); conv => whnf) | (apply (Cl.pre [Tryd.asmH o ⟨bs, labs, us, line⟩]); (focus ((repeat (first | exact FEnt.rfl | (refine FEnt.at 1 rfl ?_; (try simp only [List.eraseIdx_cons_zero, List.eraseIdx_cons_succ, List.eraseIdx_zero, List.tail_cons])) | (apply Tryd.asmShut) | rfl | assumption)); done)); refine Cl.exs (hby _ _ _ (by ((repeat ((refine Rd.own 0 rfl ?_); (assumption))); done))) ?_; rintro ⟨a5, c5, mb5, a6, c6⟩ ⟨u1, u2, u3, u4⟩; conv => whnf))
      | ((rw [hw0]); conv => whnf)
      | ((refine Sm.appStrAt Tryd.tysOk 1 rfl rfl rfl rfl rfl rfl rfl rfl rfl (by (try dsimp only); omega) (fun a7 c7 hc7 had7 => ?_)); conv => whnf))
    all_goals first | (exfalso; omega) | (refine Is.ent ?_ ?_; (focus (refine FEnt.ent ?_; (repeat (first | exact FEnt.rfl | (refine FEnt.at 0 rfl ?_; (try simp only [List.eraseIdx_cons_zero, List.eraseIdx_cons_succ, List.eraseIdx_zero, List.tail_cons])) | (refine FEnt.at 1 rfl ?_; (try simp only [List.eraseIdx_cons_zero, List.eraseIdx_cons_succ, List.eraseIdx_zero, List.tail_cons])) | (apply Tryd.asmShut) | refine FEnt.drop ?_ | rfl | assumption)); done)); (exact Is.rfl))
  · rw [decide_eq_true h3, trim_58 w0 (by rw [suf_58]; exact decide_eq_true h3)] at hcs
    have hin := fun L => Con.df h5 (Tryd.asmIsName (w0.extract 0 (w0.size - 1)) L (by rw [ByteArray.size_extract]; omega))
    clear h3 h5
    refine con_of Tryd.tysOk Tryd.func45 rfl rfl ?_
    conv => whnf
    repeat' (first
      | (first | ((with_reducible refine Br.tt ?_); conv => whnf) | ((with_reducible refine Br.ff ?_); conv => whnf) | ((with_reducible refine Br.dt ?_ ?_); (focus (first | assumption | omega)); conv => whnf) | ((with_reducible refine Br.df ?_ ?_); (focus (first | assumption | omega)); conv => whnf))
      | ((with_reducible refine Ar.i64 ?_ ?_); (focus omega); conv => whnf)
      | ((with_reducible refine Nd.mk ?_ ?_); (focus (first | omega | rfl | assumption | (simp; done))); conv => whnf)
      | ((with_reducible refine Ix.ad ?_ ?_ ?_); (focus (assumption)); (focus (omega)); conv => whnf)
      | ((with_reducible refine SIx.mk' ?_ ?_); (focus (omega)); conv => whnf)
      | (first | ((apply Ld.rd0); (focus ((repeat ((refine Rd.own 0 rfl ?_); (assumption))); done)); (focus rfl); (focus (omega)); (focus rfl); conv => whnf) | (refine Ld.at 0 rfl rfl ?_; conv => whnf))
      | (refine St.at 1 rfl (by first | exact Nat.le_of_ble_eq_true rfl | (simp; done)) rfl ?_; conv => whnf)
      | (first | ((with_reducible refine Cl.new (hsp _ (by ((repeat (first | assumption | apply Tryd.mxCons | apply Tryd.mxApp)); done))) (fun _ _ _ _ => ?_)); conv => whnf) | ((with_reducible refine Cl.is (hcs _) ?_); conv => whnf) | ((with_reducible refine Cl.is (hin _) ?_); conv => whnf) | (apply (Cl.pre [Tryd.asmH o ⟨bs, labs, us, line⟩]); (focus ((repeat (first | exact FEnt.rfl | (refine FEnt.at 1 rfl ?_; (try simp only [List.eraseIdx_cons_zero, List.eraseIdx_cons_succ, List.eraseIdx_zero, List.tail_cons])) | (apply Tryd.asmShut) | rfl | assumption)); done)); refine Cl.exs (hby _ _ _ (by ((repeat ((refine Rd.own 0 rfl ?_); (assumption))); done))) ?_; rintro ⟨a5, c5, mb5, a6, c6⟩ ⟨u1, u2, u3, u4⟩; conv => whnf))
      | ((rw [hw0]); conv => whnf)
      | ((refine Sm.appStrAt Tryd.tysOk 1 rfl rfl rfl rfl rfl rfl rfl rfl rfl (by (try dsimp only); omega) (fun a7 c7 hc7 had7 => ?_)); conv => whnf))
    all_goals first | (exfalso; omega) | (refine Is.ent ?_ ?_; (focus (refine FEnt.ent ?_; (repeat (first | exact FEnt.rfl | (refine FEnt.at 0 rfl ?_; (try simp only [List.eraseIdx_cons_zero, List.eraseIdx_cons_succ, List.eraseIdx_zero, List.tail_cons])) | (refine FEnt.at 1 rfl ?_; (try simp only [List.eraseIdx_cons_zero, List.eraseIdx_cons_succ, List.eraseIdx_zero, List.tail_cons])) | (apply Tryd.asmShut) | refine FEnt.drop ?_ | rfl | assumption)); done)); (exact Is.rfl))
theorem Tryd.asmReadLim (o : Nat) (X : Aob) (s : ByteArray) (ws : List ByteArray) (w0 : ByteArray) (L : List HP) (hne : ¬ s = ⟨#[]⟩) (h35 : ¬ ((sAt s 0).toNat : Int) = 35) (hs1 : 1 ≤ s.size) (hN : ws.length ≤ 100000) (h1 : 1 ≤ ws.length) (hs : ∀ i, (ws.getD i strE.d).size ≤ 1000000)
    (hw0 : ws.getD (Int.toNat 0) strE.d = w0) (hsp : ∀ L, Tryd.Mx L → Con Tryd.prog 44 [.string s, .string ⟨#[32]⟩] L (New strE 9 ws L)) (hM : Tryd.Mx L) (hb : X.bs.length ≤ 1024) (hu : X.uses.length ≤ 100000) (hA : ¬ (ws.length = 1 ∧ labP w0)) (hg : (bytF ws).bad = false) (hlim : 1024 < X.bs.length + (lnZb (bytF ws)).length) (hzb : (lnZb (bytF ws)).length ≤ 100) :
    Con Tryd.prog 45 [p64 o, .string s] (Tryd.asmH o X :: L) (fun _ _ => False) (Tryd.PanX 4 (Tryd.asmL o X.line :: L)) := by
  have z0 : w0.size ≤ 1000000 := by rw [← hw0]; exact hs _
  have x0 : wat ws 0 = w0 := hw0
  have hcs := fun L => Tryd.cutSuf w0 L (by omega)
  rw [suf_58] at hcs
  have hby := fun aw cw L h => Tryd.asmIsOpen (Tryd.asmBytes o X aw cw ws w0 _ L h hN h1 hs hw0 rfl hb hu hg)
  rw [addU_mk] at hby
  have hul := addU_len X (bytF ws).nam (szF (bytF ws) - 2)
  have hz : (bsL (lnZb (bytF ws))).size = (lnZb (bytF ws)).length := rfl
  refine Tryd.asmOpen ⟨_, Tryd.func45, by kernel_rfl, by kernel_rfl⟩ fun a c mb a' c' v1 v2 v3 v4 => ?_
  obtain ⟨bs, labs, us, line⟩ := X
  dsimp only at *
  generalize (addU ⟨bs, labs, us, line⟩ (bytF ws).nam (szF (bytF ws) - 2)).uses = us2 at *
  generalize lnZb (bytF ws) = zs at *
  clear hs x0 hg
  have hnl : ¬ (1 ≤ w0.size ∧ (sAt w0 (w0.size - 1)).toNat = 58) ∨ ((1 ≤ w0.size ∧ (sAt w0 (w0.size - 1)).toNat = 58) ∧ ws.length ≠ 1) ∨ ((1 ≤ w0.size ∧ (sAt w0 (w0.size - 1)).toNat = 58) ∧ ws.length = 1 ∧ ¬ Ltrs (w0.extract 0 (w0.size - 1))) := by
    by_cases h1 : 1 ≤ w0.size ∧ (sAt w0 (w0.size - 1)).toNat = 58
    · by_cases h2 : ws.length = 1
      · refine .inr (.inr ⟨h1, h2, fun h3 => hA ⟨h2, ?_, h1.2, h3⟩⟩)
        have := h3.ge
        rw [ByteArray.size_extract] at this
        omega
      · exact .inr (.inl ⟨h1, h2⟩)
    · exact .inl h1
  clear hA
  rcases hnl with h3 | ⟨h3, h4⟩ | ⟨h3, h4, h5⟩
  · rw [decide_eq_false h3] at hcs
    clear h3
    refine con_of Tryd.tysOk Tryd.func45 rfl rfl ?_
    conv => whnf
    repeat' (first
      | (first | ((with_reducible refine Br.ff ?_); conv => whnf) | ((with_reducible refine Br.dt ?_ ?_); (focus (first | assumption | omega)); conv => whnf) | ((with_reducible refine Br.df ?_ ?_); (focus (first | assumption | omega)); conv => whnf))
      | ((with_reducible refine Ar.i64 ?_ ?_); (focus omega); conv => whnf)
      | ((with_reducible refine Nd.mk ?_ ?_); (focus (first | omega | rfl | assumption | (simp; done))); conv => whnf)
      | ((with_reducible refine Ix.ad ?_ ?_ ?_); (focus (assumption)); (focus (omega)); conv => whnf)
      | ((with_reducible refine SIx.mk' ?_ ?_); (focus (omega)); conv => whnf)
      | (first | ((apply Ld.rd0); (focus ((repeat ((refine Rd.own 0 rfl ?_); (assumption))); done)); (focus rfl); (focus (omega)); (focus rfl); conv => whnf) | (refine Ld.at 0 rfl rfl ?_; conv => whnf))
      | (first | ((with_reducible refine Cl.new (hsp _ (by ((repeat (first | assumption | apply Tryd.mxCons | apply Tryd.mxApp)); done))) (fun _ _ _ _ => ?_)); conv => whnf) | ((with_reducible refine Cl.is (hcs _) ?_); conv => whnf) | (apply (Cl.pre [Tryd.asmH o ⟨bs, labs, us, line⟩]); (focus ((repeat (first | exact FEnt.rfl | (refine FEnt.at 0 rfl ?_; (try simp only [List.eraseIdx_cons_zero, List.eraseIdx_cons_succ, List.eraseIdx_zero, List.tail_cons])) | (refine FEnt.at 1 rfl ?_; (try simp only [List.eraseIdx_cons_zero, List.eraseIdx_cons_succ, List.eraseIdx_zero, List.tail_cons])) | (apply Tryd.asmShut) | refine FEnt.drop ?_ | rfl | assumption)); done)); refine Cl.exs (hby _ _ _ (by ((repeat ((refine Rd.own 0 rfl ?_); (assumption))); done))) ?_; rintro ⟨a5, c5, mb5, a6, c6⟩ ⟨u1, u2, u3, u4⟩; conv => whnf) | ((with_reducible refine (?_ : Cl _ 46 _ _ _ _)); (refine Cl.pan (Tryd.asmGive _ _) (fun ch L' h => ?_)); conv => whnf))
      | ((rw [hw0]); conv => whnf))
    all_goals first | (exfalso; omega) | exact ⟨h.ch, fun w s => Tryd.asmForget (X := ⟨bs, labs, us2, line⟩) w ((by (refine FEnt.ent ?_; (repeat (first | exact FEnt.rfl | (refine FEnt.at 0 rfl ?_; (try simp only [List.eraseIdx_cons_zero, List.eraseIdx_cons_succ, List.eraseIdx_zero, List.tail_cons])) | (apply Tryd.asmShut) | refine FEnt.drop ?_ | rfl | assumption)); done) : Ent _ (Tryd.asmH o ⟨bs, labs, us2, line⟩ :: L)) w (h.l w s))⟩
  · rw [decide_eq_true h3] at hcs
    clear h3
    refine con_of Tryd.tysOk Tryd.func45 rfl rfl ?_
    conv => whnf
    repeat' (first
      | (first | ((with_reducible refine Br.tt ?_); conv => whnf) | ((with_reducible refine Br.ff ?_); conv => whnf) | ((with_reducible refine Br.dt ?_ ?_); (focus (first | assumption | omega)); conv => whnf) | ((with_reducible refine Br.df ?_ ?_); (focus (first | assumption | omega)); conv => whnf))
      | ((with_reducible refine Ar.i64 ?_ ?_); (focus omega); conv => whnf)
      | ((with_reducible refine Nd.mk ?_ ?_); (focus (first | omega | rfl | assumption | (simp; done))); conv => whnf)
      | ((with_reducible refine Ix.ad ?_ ?_ ?_); (focus (assumption)); (focus (omega)); conv => whnf)
      | ((with_reducible refine SIx.mk' ?_ ?_); (focus (omega)); conv => whnf)
      | (first | ((apply Ld.rd0); (focus ((repeat ((refine Rd.own 0 rfl ?_); (assumption))); done)); (focus rfl); (focus (omega)); (focus rfl); conv => whnf) | (refine Ld.at 0 rfl rfl ?_; conv => whnf))
      | (first | ((with_reducible refine Cl.new (hsp _ (by ((repeat (first | assumption | apply Tryd.mxCons | apply Tryd.mxApp)); done))) (fun _ _ _ _ => ?_)); conv => whnf) | ((with_reducible refine Cl.is (hcs _) ?_); conv => whnf) | (apply (Cl.pre [Tryd.asmH o ⟨bs, labs, us, line⟩]); (focus ((repeat (first | exact FEnt.rfl | (refine FEnt.at 0 rfl ?_; (try simp only [List.eraseIdx_cons_zero, List.eraseIdx_cons_succ, List.eraseIdx_zero, List.tail_cons])) | (refine FEnt.at 1 rfl ?_; (try simp only [List.eraseIdx_cons_zero, List.eraseIdx_cons_succ, List.eraseIdx_zero, List.tail_cons])) | (apply Tryd.asmShut) | refine FEnt.drop ?_ | rfl | assumption)); done)); refine Cl.exs (hby _ _ _ (by ((repeat ((refine Rd.own 0 rfl ?_); (assumption))); done))) ?_; rintro ⟨a5, c5, mb5, a6, c6⟩ ⟨u1, u2, u3, u4⟩; conv => whnf) | ((with_reducible refine (?_ : Cl _ 46 _ _ _ _)); (refine Cl.pan (Tryd.asmGive _ _) (fun ch L' h => ?_)); conv => whnf))
      | ((rw [hw0]); conv => whnf))
    all_goals first | (exfalso; omega) | exact ⟨h.ch, fun w s => Tryd.asmForget (X := ⟨bs, labs, us2, line⟩) w ((by (refine FEnt.ent ?_; (repeat (first | exact FEnt.rfl | (refine FEnt.at 0 rfl ?_; (try simp only [List.eraseIdx_cons_zero, List.eraseIdx_cons_succ, List.eraseIdx_zero, List.tail_cons])) | (apply Tryd.asmShut) | refine FEnt.drop ?_ | rfl | assumption)); done) : Ent _ (Tryd.asmH o ⟨bs, labs, us2, line⟩ :: L)) w (h.l w s))⟩
  · rw [decide_eq_true h3, trim_58 w0 (by rw [suf_58]; exact decide_eq_true h3)] at hcs
    have hin := fun L => Con.df h5 (Tryd.asmIsName (w0.extract 0 (w0.size - 1)) L (by rw [ByteArray.size_extract]; omega))
    clear h3 h5
    refine con_of Tryd.tysOk Tryd.func45 rfl rfl ?_
    conv => whnf
    repeat' (first
      | (first | ((with_reducible refine Br.tt ?_); conv => whnf) | ((with_reducible refine Br.ff ?_); conv => whnf) | ((with_reducible refine Br.dt ?_ ?_); (focus (first | assumption | omega)); conv => whnf) | ((with_reducible refine Br.df ?_ ?_); (focus (first | assumption | omega)); conv => whnf))
      | ((with_reducible refine Ar.i64 ?_ ?_); (focus omega); conv => whnf)
      | ((with_reducible refine Nd.mk ?_ ?_); (focus (first | omega | rfl | assumption | (simp; done))); conv => whnf)
      | ((with_reducible refine Ix.ad ?_ ?_ ?_); (focus (assumption)); (focus (omega)); conv => whnf)
      | ((with_reducible refine SIx.mk' ?_ ?_); (focus (omega)); conv => whnf)
      | (first | ((apply Ld.rd0); (focus ((repeat ((refine Rd.own 0 rfl ?_); (assumption))); done)); (focus rfl); (focus (omega)); (focus rfl); conv => whnf) | (refine Ld.at 0 rfl rfl ?_; conv => whnf))
      | (first | ((with_reducible refine Cl.new (hsp _ (by ((repeat (first | assumption | apply Tryd.mxCons | apply Tryd.mxApp)); done))) (fun _ _ _ _ => ?_)); conv => whnf) | ((with_reducible refine Cl.is (hcs _) ?_); conv => whnf) | ((with_reducible refine Cl.is (hin _) ?_); conv => whnf) | (apply (Cl.pre [Tryd.asmH o ⟨bs, labs, us, line⟩]); (focus ((repeat (first | exact FEnt.rfl | (refine FEnt.at 0 rfl ?_; (try simp only [List.eraseIdx_cons_zero, List.eraseIdx_cons_succ, List.eraseIdx_zero, List.tail_cons])) | (refine FEnt.at 1 rfl ?_; (try simp only [List.eraseIdx_cons_zero, List.eraseIdx_cons_succ, List.eraseIdx_zero, List.tail_cons])) | (apply Tryd.asmShut) | refine FEnt.drop ?_ | rfl | assumption)); done)); refine Cl.exs (hby _ _ _ (by ((repeat ((refine Rd.own 0 rfl ?_); (assumption))); done))) ?_; rintro ⟨a5, c5, mb5, a6, c6⟩ ⟨u1, u2, u3, u4⟩; conv => whnf) | ((with_reducible refine (?_ : Cl _ 46 _ _ _ _)); (refine Cl.pan (Tryd.asmGive _ _) (fun ch L' h => ?_)); conv => whnf))
      | ((rw [hw0]); conv => whnf))
    all_goals first | (exfalso; omega) | exact ⟨h.ch, fun w s => Tryd.asmForget (X := ⟨bs, labs, us2, line⟩) w ((by (refine FEnt.ent ?_; (repeat (first | exact FEnt.rfl | (refine FEnt.at 0 rfl ?_; (try simp only [List.eraseIdx_cons_zero, List.eraseIdx_cons_succ, List.eraseIdx_zero, List.tail_cons])) | (apply Tryd.asmShut) | refine FEnt.drop ?_ | rfl | assumption)); done) : Ent _ (Tryd.asmH o ⟨bs, labs, us2, line⟩ :: L)) w (h.l w s))⟩
theorem Tryd.asmReadBad (o : Nat) (X : Aob) (s : ByteArray) (ws : List ByteArray) (w0 : ByteArray) (L : List HP) (hne : ¬ s = ⟨#[]⟩) (h35 : ¬ ((sAt s 0).toNat : Int) = 35) (hs1 : 1 ≤ s.size) (hN : ws.length ≤ 100000) (h1 : 1 ≤ ws.length) (hs : ∀ i, (ws.getD i strE.d).size ≤ 1000000)
    (hw0 : ws.getD (Int.toNat 0) strE.d = w0) (hsp : ∀ L, Tryd.Mx L → Con Tryd.prog 44 [.string s, .string ⟨#[32]⟩] L (New strE 9 ws L)) (hM : Tryd.Mx L) (hb : X.bs.length ≤ 1024) (hu : X.uses.length ≤ 100000) (hA : ¬ (ws.length = 1 ∧ labP w0)) (hg : (bytF ws).bad = true) :
    Con Tryd.prog 45 [p64 o, .string s] (Tryd.asmH o X :: L) (fun _ _ => False) (Tryd.PanX 3 (Tryd.asmL o X.line :: L)) := by
  have z0 : w0.size ≤ 1000000 := by rw [← hw0]; exact hs _
  have x0 : wat ws 0 = w0 := hw0
  have hcs := fun L => Tryd.cutSuf w0 L (by omega)
  rw [suf_58] at hcs
  have hby := fun aw cw L h => Tryd.asmBytesNo o X aw cw ws w0 _ L h hN h1 hs hw0 rfl hb hu hg
  refine Tryd.asmOpen ⟨_, Tryd.func45, by kernel_rfl, by kernel_rfl⟩ fun a c mb a' c' v1 v2 v3 v4 => ?_
  obtain ⟨bs, labs, us, line⟩ := X
  dsimp only at *
  clear hs x0 hg
  have hnl : ¬ (1 ≤ w0.size ∧ (sAt w0 (w0.size - 1)).toNat = 58) ∨ ((1 ≤ w0.size ∧ (sAt w0 (w0.size - 1)).toNat = 58) ∧ ws.length ≠ 1) ∨ ((1 ≤ w0.size ∧ (sAt w0 (w0.size - 1)).toNat = 58) ∧ ws.length = 1 ∧ ¬ Ltrs (w0.extract 0 (w0.size - 1))) := by
    by_cases h1 : 1 ≤ w0.size ∧ (sAt w0 (w0.size - 1)).toNat = 58
    · by_cases h2 : ws.length = 1
      · refine .inr (.inr ⟨h1, h2, fun h3 => hA ⟨h2, ?_, h1.2, h3⟩⟩)
        have := h3.ge
        rw [ByteArray.size_extract] at this
        omega
      · exact .inr (.inl ⟨h1, h2⟩)
    · exact .inl h1
  clear hA
  rcases hnl with h3 | ⟨h3, h4⟩ | ⟨h3, h4, h5⟩
  · rw [decide_eq_false h3] at hcs
    clear h3
    refine con_of Tryd.tysOk Tryd.func45 rfl rfl ?_
    conv => whnf
    repeat' (first
      | (first | ((with_reducible refine Br.ff ?_); conv => whnf) | ((with_reducible refine Br.df ?_ ?_); (focus (first | assumption | omega)); conv => whnf))
      | ((with_reducible refine Nd.mk ?_ ?_); (focus (first | omega | rfl | assumption | (simp; done))); conv => whnf)
      | ((with_reducible refine Ix.ad ?_ ?_ ?_); (focus (assumption)); (focus (omega)); conv => whnf)
      | ((with_reducible refine SIx.mk' ?_ ?_); (focus (omega)); conv => whnf)
      | ((apply Ld.rd0); (focus ((repeat ((refine Rd.own 0 rfl ?_); (assumption))); done)); (focus rfl); (focus (omega)); (focus rfl); conv => whnf)
      | (first | ((with_reducible refine Cl.new (hsp _ (by ((repeat (first | assumption | apply Tryd.mxCons | apply Tryd.mxApp)); done))) (fun _ _ _ _ => ?_)); conv => whnf) | ((with_reducible refine Cl.is (hcs _) ?_); conv => whnf) | ((with_reducible refine (?_ : Cl _ 55 _ _ _ _)); (apply (Cl.pre [Tryd.asmH o ⟨bs, labs, us, line⟩]); (focus (repeat (first | exact FEnt.rfl | (refine FEnt.at 1 rfl ?_; (try simp only [List.eraseIdx_cons_zero, List.eraseIdx_cons_succ, List.eraseIdx_zero, List.tail_cons])) | (apply Tryd.asmShut) | rfl | assumption)); done); refine Cl.pan (hby _ _ _ (by ((repeat ((refine Rd.own 0 rfl ?_); (assumption))); done))) (fun ch L' h => ?_)); conv => whnf))
      | ((rw [hw0]); conv => whnf))
    all_goals first | (exfalso; omega) | exact ⟨h.ch, fun w s => Tryd.asmForget (X := ⟨bs, labs, us, line⟩) w ((by (refine FEnt.ent ?_; (repeat (first | exact FEnt.rfl | (refine FEnt.at 0 rfl ?_; (try simp only [List.eraseIdx_cons_zero, List.eraseIdx_cons_succ, List.eraseIdx_zero, List.tail_cons])) | refine FEnt.drop ?_)); done) : Ent _ (Tryd.asmH o ⟨bs, labs, us, line⟩ :: L)) w (h.l w s))⟩
  · rw [decide_eq_true h3] at hcs
    clear h3
    refine con_of Tryd.tysOk Tryd.func45 rfl rfl ?_
    conv => whnf
    repeat' (first
      | (first | ((with_reducible refine Br.tt ?_); conv => whnf) | ((with_reducible refine Br.ff ?_); conv => whnf) | ((with_reducible refine Br.df ?_ ?_); (focus (first | assumption | omega)); conv => whnf))
      | ((with_reducible refine Nd.mk ?_ ?_); (focus (first | omega | rfl | assumption | (simp; done))); conv => whnf)
      | ((with_reducible refine Ix.ad ?_ ?_ ?_); (focus (assumption)); (focus (omega)); conv => whnf)
      | ((with_reducible refine SIx.mk' ?_ ?_); (focus (omega)); conv => whnf)
      | ((apply Ld.rd0); (focus ((repeat ((refine Rd.own 0 rfl ?_); (assumption))); done)); (focus rfl); (focus (omega)); (focus rfl); conv => whnf)
      | (first | ((with_reducible refine Cl.new (hsp _ (by ((repeat (first | assumption | apply Tryd.mxCons | apply Tryd.mxApp)); done))) (fun _ _ _ _ => ?_)); conv => whnf) | ((with_reducible refine Cl.is (hcs _) ?_); conv => whnf) | ((with_reducible refine (?_ : Cl _ 55 _ _ _ _)); (apply (Cl.pre [Tryd.asmH o ⟨bs, labs, us, line⟩]); (focus (repeat (first | exact FEnt.rfl | (refine FEnt.at 1 rfl ?_; (try simp only [List.eraseIdx_cons_zero, List.eraseIdx_cons_succ, List.eraseIdx_zero, List.tail_cons])) | (apply Tryd.asmShut) | rfl | assumption)); done); refine Cl.pan (hby _ _ _ (by ((repeat ((refine Rd.own 0 rfl ?_); (assumption))); done))) (fun ch L' h => ?_)); conv => whnf))
      | ((rw [hw0]); conv => whnf))
    all_goals first | (exfalso; omega) | exact ⟨h.ch, fun w s => Tryd.asmForget (X := ⟨bs, labs, us, line⟩) w ((by (refine FEnt.ent ?_; (repeat (first | exact FEnt.rfl | (refine FEnt.at 0 rfl ?_; (try simp only [List.eraseIdx_cons_zero, List.eraseIdx_cons_succ, List.eraseIdx_zero, List.tail_cons])) | refine FEnt.drop ?_)); done) : Ent _ (Tryd.asmH o ⟨bs, labs, us, line⟩ :: L)) w (h.l w s))⟩
  · rw [decide_eq_true h3, trim_58 w0 (by rw [suf_58]; exact decide_eq_true h3)] at hcs
    have hin := fun L => Con.df h5 (Tryd.asmIsName (w0.extract 0 (w0.size - 1)) L (by rw [ByteArray.size_extract]; omega))
    clear h3 h5
    refine con_of Tryd.tysOk Tryd.func45 rfl rfl ?_
    conv => whnf
    repeat' (first
      | (first | ((with_reducible refine Br.tt ?_); conv => whnf) | ((with_reducible refine Br.ff ?_); conv => whnf) | ((with_reducible refine Br.dt ?_ ?_); (focus (first | assumption | omega)); conv => whnf) | ((with_reducible refine Br.df ?_ ?_); (focus (first | assumption | omega)); conv => whnf))
      | ((with_reducible refine Nd.mk ?_ ?_); (focus (first | omega | rfl | assumption | (simp; done))); conv => whnf)
      | ((with_reducible refine Ix.ad ?_ ?_ ?_); (focus (assumption)); (focus (omega)); conv => whnf)
      | ((with_reducible refine SIx.mk' ?_ ?_); (focus (omega)); conv => whnf)
      | ((apply Ld.rd0); (focus ((repeat ((refine Rd.own 0 rfl ?_); (assumption))); done)); (focus rfl); (focus (omega)); (focus rfl); conv => whnf)
      | (first | ((with_reducible refine Cl.new (hsp _ (by ((repeat (first | assumption | apply Tryd.mxCons | apply Tryd.mxApp)); done))) (fun _ _ _ _ => ?_)); conv => whnf) | ((with_reducible refine Cl.is (hcs _) ?_); conv => whnf) | ((with_reducible refine Cl.is (hin _) ?_); conv => whnf) | ((with_reducible refine (?_ : Cl _ 55 _ _ _ _)); (apply (Cl.pre [Tryd.asmH o ⟨bs, labs, us, line⟩]); (focus (repeat (first | exact FEnt.rfl | (refine FEnt.at 1 rfl ?_; (try simp only [List.eraseIdx_cons_zero, List.eraseIdx_cons_succ, List.eraseIdx_zero, List.tail_cons])) | (apply Tryd.asmShut) | rfl | assumption)); done); refine Cl.pan (hby _ _ _ (by ((repeat ((refine Rd.own 0 rfl ?_); (assumption))); done))) (fun ch L' h => ?_)); conv => whnf))
      | ((rw [hw0]); conv => whnf))
    all_goals first | (exfalso; omega) | exact ⟨h.ch, fun w s => Tryd.asmForget (X := ⟨bs, labs, us, line⟩) w ((by (refine FEnt.ent ?_; (repeat (first | exact FEnt.rfl | (refine FEnt.at 0 rfl ?_; (try simp only [List.eraseIdx_cons_zero, List.eraseIdx_cons_succ, List.eraseIdx_zero, List.tail_cons])) | refine FEnt.drop ?_)); done) : Ent _ (Tryd.asmH o ⟨bs, labs, us, line⟩ :: L)) w (h.l w s))⟩
theorem Tryd.asmReadNil (o : Nat) (X : Aob) (s : ByteArray) (L : List HP) (h : s.size = 0 ∨ (1 ≤ s.size ∧ (sAt s 0).toNat = 35)) : Con Tryd.prog 45 [p64 o, .string s] (Tryd.asmH o X :: L) (Is (.tuple #[]) (Tryd.asmH o X :: L)) := by
  rcases h with h | ⟨h, h2⟩
  · have := size_zero h
    subst this
    refine con_of Tryd.tysOk Tryd.func45 rfl rfl ?_
    conv => whnf
    repeat' (first | ((with_reducible refine Br.tt ?_); conv => whnf) | ((with_reducible refine Br.yes ?_ ?_); (focus (first | (simp; done) | (simp; omega))); conv => whnf))
    all_goals first | (exfalso; omega) | (refine Is.ent ?_ ?_; (focus (exact Ent.rfl)); (exact Is.rfl))
  · have hne : ¬ s = ⟨#[]⟩ := fun e => by rw [e] at h; exact absurd h (by decide)
    have h3 : ((sAt s 0).toNat : Int) = 35 := by omega
    refine con_of Tryd.tysOk Tryd.func45 rfl rfl ?_
    conv => whnf
    repeat' (first
      | (first | ((with_reducible refine Br.ff ?_); conv => whnf) | ((with_reducible refine Br.dt ?_ ?_); (focus (first | assumption | omega)); conv => whnf) | ((with_reducible refine Br.df ?_ ?_); (focus (first | assumption | omega)); conv => whnf))
      | ((with_reducible refine SIx.mk' ?_ ?_); (focus (omega)); conv => whnf))
    all_goals first | (exfalso; omega) | (refine Is.ent ?_ ?_; (focus (exact Ent.rfl)); (exact Is.rfl))
end Go.Proofs
