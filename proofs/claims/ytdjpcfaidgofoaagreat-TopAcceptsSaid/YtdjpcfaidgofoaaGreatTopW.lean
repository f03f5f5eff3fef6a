/- The board, the devices' drops, the server's numbers, of one client: contracts. -/
import Derived.Test.YtdjpcfaidgofoaaGreatTopV
set_option linter.all false
namespace Go.Eng
open Go
theorem FEnt.big1s {β : Type} {H : β → HP} {x : β} {L M : List HP} (h : FEnt L (H x :: M)) : FEnt L (bigH H [x] :: M) := FEnt.bigS (xs := []) (fun K w s => by
  have s1 := h K w s
  have e : K ++ H x :: M = (K ++ [H x]) ++ M := by simp
  have s2 := (FEnt.big0 (H := H) (L := M) (M := M) FEnt.rfl) (K ++ [H x]) w (by rw [← e]; exact s1)
  simpa using s2)
theorem perm_out {α : Type} {M A U V : List α} : (M ++ (A ++ (U ++ V))).Perm (U ++ (M ++ (A ++ V))) := by
  rw [← List.append_assoc M A, ← List.append_assoc (M ++ A) U V, ← List.append_assoc M A, ← List.append_assoc U (M ++ A)]
  exact List.perm_append_comm.append_right V
/-- a part is opened, wherever it stands -/
theorem Con.openAt {P : Program} {f : FuncId} {args : List Value} {L N : List HP} {A : HP} {R : Value → List HP → Prop} (i : Nat) (hi : L[i]? = some A) (h : ∀ e c, A e c → Parts e N c) (k : Con P f args (N ++ L.eraseIdx i) R) : Con P f args L R :=
  Con.entl (fun w s => (s.perm (perm_at L i hi)).opened h) k
theorem big1_open {β : Type} {H : β → HP} {x : β} {N : List HP} (h : ∀ e c, H x e c → Parts e N c) : ∀ e c, bigH H [x] e c → Parts e N c := fun e c hc => by
  obtain ⟨h1, h2, rfl, ha, hb⟩ := star_spec.1 hc
  have hb : h2 = [] := hb
  subst hb
  rw [List.append_nil]
  exact h _ _ ha
end Go.Eng
namespace Go.Proofs
open Go.Eng
set_option linter.unusedVariables false
set_option maxRecDepth 100000
set_option maxHeartbeats 4000000
theorem Tryz.brdFind (b : Nat) (la de : Int) (L : List HP) : Con Tryz.prog 174 [pV b, n64 1] (ptc b 176 (brdC la de 1) :: L) (Is (pV b) (ptc b 176 (brdC la de 1) :: L)) := by
  refine con_of Tryz.tysOk Tryz.func174 rfl rfl ?_
  conv => whnf
  repeat' (first
    | (first | ((with_reducible refine Br.ff ?_); conv => whnf) | ((with_reducible refine Br.sn ?_); conv => whnf) | ((with_reducible refine Br.df ?_ ?_); (focus (first | assumption | omega)); conv => whnf))
    | ((with_reducible refine Ar.i64 ?_ ?_); (focus omega); conv => whnf)
    | ((refine Ix.arr (by decide) ?_); conv => whnf)
    | (refine Ld.at 0 rfl rfl ?_; conv => whnf))
  all_goals first | (exfalso; omega) | (refine Is.ent ?_ ?_; (focus (exact Ent.rfl)); (exact Is.rfl))
theorem Tryz.brdRaise (b : Nat) (L : List HP) : Con Tryz.prog 141 [pV b, n64 1, n64 0] (ptc b 176 (brdC 0 0 1) :: L) (Is (n64 0) (ptc b 176 (brdC 0 0 1) :: L)) := by
  refine con_of Tryz.tysOk Tryz.func141 rfl rfl ?_
  conv => whnf
  repeat' (first
    | (first | ((with_reducible refine Br.ff ?_); conv => whnf) | ((with_reducible refine Br.sn ?_); conv => whnf) | ((with_reducible refine Br.df ?_ ?_); (focus (first | assumption | omega)); conv => whnf))
    | ((refine Bt.is (m := 0) (by decide) ?_); conv => whnf)
    | ((with_reducible refine Nd.mk ?_ ?_); (focus (first | omega | rfl | assumption | (simp; done))); conv => whnf)
    | (refine Ld.at 0 rfl rfl ?_; conv => whnf)
    | (refine St.at 0 rfl (by first | exact Nat.le_of_ble_eq_true rfl | (simp; done)) rfl ?_; conv => whnf)
    | ((refine Cl.isAt 0 rfl (Tryz.brdFind b 0 0 _) ?_); conv => whnf))
  all_goals first | (exfalso; omega) | (refine Is.ent ?_ ?_; (focus (exact Ent.rfl)); (exact Is.rfl))
theorem Tryz.brdOpen (b : Nat) (L : List HP) : Con Tryz.prog 144 [pV b, n64 1] (ptc b 176 (brdC 0 0 1) :: L) (Is (n64 0) (ptc b 176 (brdC 0 0 1) :: L)) := by
  refine con_of Tryz.tysOk Tryz.func144 rfl rfl ?_
  conv => whnf
  repeat' (first
    | ((with_reducible refine Br.sn ?_); conv => whnf)
    | ((refine Bt.is (m := 0) (by decide) ?_); conv => whnf)
    | ((with_reducible refine Nd.mk ?_ ?_); (focus (first | omega | rfl | assumption | (simp; done))); conv => whnf)
    | (refine Ld.at 0 rfl rfl ?_; conv => whnf)
    | (refine St.at 0 rfl (by first | exact Nat.le_of_ble_eq_true rfl | (simp; done)) rfl ?_; conv => whnf)
    | ((refine Cl.isAt 0 rfl (Tryz.brdFind b 0 0 _) ?_); conv => whnf))
  all_goals first | (exfalso; omega) | (refine Is.ent ?_ ?_; (focus (exact Ent.rfl)); (exact Is.rfl))
theorem Tryz.brdDelivered (b : Nat) (L : List HP) : Con Tryz.prog 156 [pV b, n64 1] (ptc b 176 (brdC 0 0 1) :: L) (Is (n64 0) (ptc b 176 (brdC 0 0 1) :: L)) := by
  refine con_of Tryz.tysOk Tryz.func156 rfl rfl ?_
  conv => whnf
  repeat' (first
    | ((with_reducible refine Br.nsn ?_); conv => whnf)
    | (refine Ld.at 0 rfl rfl ?_; conv => whnf)
    | ((refine Cl.isAt 0 rfl (Tryz.brdFind b 0 0 _) ?_); conv => whnf))
  all_goals first | (exfalso; omega) | (refine Is.ent ?_ ?_; (focus (exact Ent.rfl)); (exact Is.rfl))
/-! what had no room -/
theorem Tryz.fifoDropsB (b : Nat) (n : Int) (L : List HP) : Con Tryz.prog 227 [pV b] (ptc b 305 (qC n) :: L) (Is (n64 0) (ptc b 305 (qC n) :: L)) := by
  refine con_of Tryz.tysOk Tryz.func227 rfl rfl ?_
  conv => whnf
  repeat' (first
    | ((with_reducible refine Br.sn ?_); conv => whnf)
    | (refine Ld.at 0 rfl rfl ?_; conv => whnf))
  all_goals first | (exfalso; omega) | (refine Is.ent ?_ ?_; (focus (exact Ent.rfl)); (exact Is.rfl))
theorem Tryz.fifoDropsF (b : Nat) (n : Int) (L : List HP) : Con Tryz.prog 229 [pV b] (ptc b 308 (qC n) :: L) (Is (n64 0) (ptc b 308 (qC n) :: L)) := by
  refine con_of Tryz.tysOk Tryz.func229 rfl rfl ?_
  conv => whnf
  repeat' (first
    | ((with_reducible refine Br.sn ?_); conv => whnf)
    | (refine Ld.at 0 rfl rfl ?_; conv => whnf))
  all_goals first | (exfalso; omega) | (refine Is.ent ?_ ?_; (focus (exact Ent.rfl)); (exact Is.rfl))
/-- one line, one port -/
abbrev Tryz.uaL (bu mu l f : Nat) : List HP := [ptc bu 219 [.map (some mu), .slice none 0 0], mapH mu (.int .i64) [(n64 1, pV l)], ptc l 225 [n64 1, n64 3, n64 2, pV f, n64 0], ptc f 305 (qC 2)]
abbrev Tryz.niL (bn mn p g : Nat) : List HP := [ptc bn 229 [.map (some mn), n64 0, .slice none 0 0], mapH mn (.int .i64) [(n64 1, pV p)], ptc p 237 [n64 1, n64 0, n64 2, pV g], ptc g 308 (qC 2)]
theorem Tryz.uaFind1 (bu mu l : Nat) (L : List HP) : Con Tryz.prog 170 [pV bu, n64 1] (ptc bu 219 [.map (some mu), .slice none 0 0] :: mapH mu (.int .i64) [(n64 1, pV l)] :: L) (Is (.tuple #[pV l, n64 0]) (ptc bu 219 [.map (some mu), .slice none 0 0] :: mapH mu (.int .i64) [(n64 1, pV l)] :: L)) := by
  have hj : [((n64 1 : Value), pV l)][0]? = some (n64 1, pV l) := rfl
  refine con_of Tryz.tysOk Tryz.func170 rfl rfl ?_
  conv => whnf
  repeat' (first
    | ((with_reducible refine Br.sn ?_); conv => whnf)
    | (refine Ld.at 0 rfl rfl ?_; conv => whnf)
    | ((with_reducible refine (?_ : Sm _ (Instr.lookup _ _ _ _) _ _)); (refine Sm.lkYes Tryz.tysOk 1 rfl rfl rfl rfl rfl (by first | exact rfl | exact trivial) _ (hj) ?_; conv => whnf)))
  all_goals first | (exfalso; omega) | (refine Is.ent ?_ ?_; (focus (exact Ent.rfl)); (exact Is.rfl))
theorem Tryz.niFind1 (bu mu l : Nat) (L : List HP) : Con Tryz.prog 228 [pV bu, n64 1] (ptc bu 229 [.map (some mu), n64 0, .slice none 0 0] :: mapH mu (.int .i64) [(n64 1, pV l)] :: L) (Is (.tuple #[pV l, n64 0]) (ptc bu 229 [.map (some mu), n64 0, .slice none 0 0] :: mapH mu (.int .i64) [(n64 1, pV l)] :: L)) := by
  have hj : [((n64 1 : Value), pV l)][0]? = some (n64 1, pV l) := rfl
  refine con_of Tryz.tysOk Tryz.func228 rfl rfl ?_
  conv => whnf
  repeat' (first
    | (first | ((with_reducible refine Br.sn ?_); conv => whnf) | ((with_reducible refine Br.nsn ?_); conv => whnf))
    | (refine Ld.at 0 rfl rfl ?_; conv => whnf)
    | ((with_reducible refine (?_ : Sm _ (Instr.lookup _ _ _ _) _ _)); (refine Sm.lkYes Tryz.tysOk 1 rfl rfl rfl rfl rfl (by first | exact rfl | exact trivial) _ (hj) ?_; conv => whnf)))
  all_goals first | (exfalso; omega) | (refine Is.ent ?_ ?_; (focus (exact Ent.rfl)); (exact Is.rfl))
theorem Tryz.uaDrops1 (bu mu l f : Nat) (L : List HP) : Con Tryz.prog 190 [pV bu, n64 1] (Tryz.uaL bu mu l f ++ L) (Is (n64 0) (Tryz.uaL bu mu l f ++ L)) := by
  change Con Tryz.prog 190 [pV bu, n64 1] (ptc bu 219 [.map (some mu), .slice none 0 0] :: mapH mu (.int .i64) [(n64 1, pV l)] :: ptc l 225 [n64 1, n64 3, n64 2, pV f, n64 0] :: ptc f 305 (qC 2) :: L) _
  refine con_of Tryz.tysOk Tryz.func190 rfl rfl ?_
  conv => whnf
  repeat' (first
    | ((with_reducible refine Br.ndf ?_ ?_); (focus (first | assumption | omega)); conv => whnf)
    | ((with_reducible refine Nd.mk ?_ ?_); (focus (first | omega | rfl | assumption | (simp; done))); conv => whnf)
    | (refine Ld.at 2 rfl rfl ?_; conv => whnf)
    | (first | ((refine Cl.isAt2 0 0 rfl rfl (Tryz.uaFind1 bu mu l _) ?_); conv => whnf) | ((refine Cl.isAt 3 rfl (Tryz.fifoDropsB f 2 _) ?_); conv => whnf)))
  all_goals first | (exfalso; omega) | (refine Is.ent ?_ ?_; (focus (exact Ent.rfl)); (exact Is.rfl))
theorem Tryz.niDrops1 (bu mu l f : Nat) (L : List HP) : Con Tryz.prog 191 [pV bu, n64 1] (Tryz.niL bu mu l f ++ L) (Is (n64 0) (Tryz.niL bu mu l f ++ L)) := by
  change Con Tryz.prog 191 [pV bu, n64 1] (ptc bu 229 [.map (some mu), n64 0, .slice none 0 0] :: mapH mu (.int .i64) [(n64 1, pV l)] :: ptc l 237 [n64 1, n64 0, n64 2, pV f] :: ptc f 308 (qC 2) :: L) _
  refine con_of Tryz.tysOk Tryz.func191 rfl rfl ?_
  conv => whnf
  repeat' (first
    | ((with_reducible refine Br.ndf ?_ ?_); (focus (first | assumption | omega)); conv => whnf)
    | ((with_reducible refine Nd.mk ?_ ?_); (focus (first | omega | rfl | assumption | (simp; done))); conv => whnf)
    | (refine Ld.at 2 rfl rfl ?_; conv => whnf)
    | (first | ((refine Cl.isAt2 0 0 rfl rfl (Tryz.niFind1 bu mu l _) ?_); conv => whnf) | ((refine Cl.isAt 3 rfl (Tryz.fifoDropsF f 2 _) ?_); conv => whnf)))
  all_goals first | (exfalso; omega) | (refine Is.ent ?_ ?_; (focus (exact Ent.rfl)); (exact Is.rfl))
/-- devices of one client -/
abbrev dv1 (b bu mu l f bn mn p g bk be : Nat) : Dv := (b, (bu, mu, [(l, f, 1, 3, 2)]), (bn, mn, [(p, g, 1, 0, 2)]), bk, be)
theorem Tryz.devDrops1 (b bu mu l f bn mn p g bk be : Nat) (L : List HP) : Con Tryz.prog 155 [pV b, n64 1] (Tryz.devH (dv1 b bu mu l f bn mn p g bk be) :: L) (Is (n64 0) (Tryz.devH (dv1 b bu mu l f bn mn p g bk be) :: L)) := by
  refine Con.openAt (N := Tryz.devP (dv1 b bu mu l f bn mn p g bk be)) 0 rfl (fun e c h => h) ?_
  refine Con.openAt (N := [ptc l 225 [n64 1, n64 3, n64 2, pV f, n64 0], ptc f 305 (qC 2)]) 3 rfl (big1_open (fun e c h => h)) ?_
  refine Con.openAt (N := [ptc p 237 [n64 1, n64 0, n64 2, pV g], ptc g 308 (qC 2)]) 7 rfl (big1_open (fun e c h => h)) ?_
  refine Con.entl (M := ptc b 152 [pV bu, pV bn, pV bk, pV be] :: (Tryz.uaL bu mu l f ++ (Tryz.niL bn mn p g ++ L))) (by (refine FEnt.ent ?_; (repeat (first | exact FEnt.rfl | (refine FEnt.at 2 rfl ?_; (try simp only [List.eraseIdx_cons_zero, List.eraseIdx_cons_succ, List.eraseIdx_zero, List.tail_cons])) | (refine FEnt.at 4 rfl ?_; (try simp only [List.eraseIdx_cons_zero, List.eraseIdx_cons_succ, List.eraseIdx_zero, List.tail_cons])))); done)) ?_
  change Con Tryz.prog 155 [pV b, n64 1] (ptc b 152 [pV bu, pV bn, pV bk, pV be] :: ptc bu 219 [.map (some mu), .slice none 0 0] :: mapH mu (.int .i64) [(n64 1, pV l)] :: ptc l 225 [n64 1, n64 3, n64 2, pV f, n64 0] :: ptc f 305 (qC 2) :: ptc bn 229 [.map (some mn), n64 0, .slice none 0 0] :: mapH mn (.int .i64) [(n64 1, pV p)] :: ptc p 237 [n64 1, n64 0, n64 2, pV g] :: ptc g 308 (qC 2) :: L) _
  have hu := fun L => Tryz.uaDrops1 bu mu l f L
  have hn := fun L => Tryz.niDrops1 bn mn p g L
  refine con_of Tryz.tysOk Tryz.func155 rfl rfl ?_
  conv => whnf
  repeat' (first
    | ((with_reducible refine Br.sn ?_); conv => whnf)
    | ((with_reducible refine Ar.i64 ?_ ?_); (focus omega); conv => whnf)
    | (refine Ld.at 0 rfl rfl ?_; conv => whnf)
    | ((with_reducible refine Dr.by (id := 3) Tryz.tysOk rfl [(0, 0), (1, 0), (2, 0), (4, 0), (6, 0), (7, 0), (8, 0), (10, 0), (3, 1), (5, 1), (9, 1), (11, 1), (12, 0), (13, 0)] ?_ ?_); (focus kernel_rfl); conv => whnf)
    | (first | ((with_reducible refine (?_ : CD _ 190 _ _ _)); (refine CD.is (fun M => Con.isAt (perm_out (A := [ptc b 152 [pV bu, pV bn, pV bk, pV be]]) (U := Tryz.uaL bu mu l f) (V := Tryz.niL bn mn p g ++ L)) (hu _)) ?_); conv => whnf) | ((with_reducible refine (?_ : CD _ 191 _ _ _)); (refine CD.is (fun M => Con.isAt (perm_out (A := ptc b 152 [pV bu, pV bn, pV bk, pV be] :: Tryz.uaL bu mu l f) (U := Tryz.niL bn mn p g) (V := L)) (hn _)) ?_); conv => whnf)))
  all_goals first | (exfalso; omega) | (refine Is.ent ?_ ?_; (focus (refine FEnt.ent ?_; (repeat (first | exact FEnt.rfl | (refine FEnt.at 0 rfl ?_; (try simp only [List.eraseIdx_cons_zero, List.eraseIdx_cons_succ, List.eraseIdx_zero, List.tail_cons])) | (apply Tryz.devShut) | (apply FEnt.big1s) | refine FEnt.star ?_)); done)); (exact Is.rfl))
theorem Tryz.srvDone (C : Cfg) (bs bp bm bd ba : Nat) (d0 : Dsk) (R : List Dsk) (y : Qu) (L : List HP) (h : C.xs.length = 1) :
    Con Tryz.prog 154 [pV bs, n64 1] (Tryz.srvP bs bp bm bd ba d0 R y :: Tryz.plnH C bp :: L) (Is (n64 0) (Tryz.srvP bs bp bm bd ba d0 R y :: Tryz.plnH C bp :: L)) := by
  have ho := fun L => Tryz.plnOwners C bp L
  rw [h] at ho
  have hf : ∀ L, Con Tryz.prog 189 [pV bs, n64 1] (Tryz.srvP bs bp bm bd ba d0 R y :: Tryz.plnH C bp :: L) (Is (.agg #[n64 128, n64 64, n64 1, n64 0, n64 2, n64 2, n64 0, n64 3, n64 0, n64 0, pV y.1, n64 0, n64 0, .bool false]) (Tryz.srvP bs bp bm bd ba d0 R y :: Tryz.plnH C bp :: L)) := fun L => by
    clear h
    refine con_of Tryz.tysOk Tryz.func189 rfl rfl ?_
    conv => whnf
    repeat' (first
      | (first | ((with_reducible refine Br.ff ?_); conv => whnf) | ((with_reducible refine Br.sn ?_); conv => whnf) | ((with_reducible refine Br.df ?_ ?_); (focus (first | assumption | omega)); conv => whnf))
      | ((with_reducible refine Nd.mk ?_ ?_); (focus (first | omega | rfl | assumption | (simp; done))); conv => whnf)
      | ((with_reducible refine Nc.go' (fun _ => ?_)); conv => whnf)
      | ((refine Ix.arr (by decide) ?_); conv => whnf)
      | (refine Ld.at 1 rfl rfl ?_; conv => whnf)
      | (first | ((refine LdN.arrE (E := dsE) (xs := ds0 d0 y.1 R) (A := [_, _, _, _]) (B := []) 1 rfl rfl rfl rfl ⟨by decide, by show (1 : Int) < ((R.length + 2 : Nat) : Int); omega⟩ ?_); conv => whnf) | (refine LdN.at 0 rfl (by first | exact Nat.le_of_ble_eq_true rfl | (simp; done)) ?_; conv => whnf))
      | (refine St.at 0 rfl (by first | exact Nat.le_of_ble_eq_true rfl | (simp; done)) rfl ?_; conv => whnf)
      | ((refine Cl.isAt 2 rfl (ho _) ?_); conv => whnf))
    all_goals first | (exfalso; omega) | (refine Is.ent ?_ ?_; (focus (refine FEnt.ent ?_; (repeat (first | exact FEnt.rfl | (refine FEnt.at 1 rfl ?_; (try simp only [List.eraseIdx_cons_zero, List.eraseIdx_cons_succ, List.eraseIdx_zero, List.tail_cons])) | refine FEnt.drop ?_)); done)); (exact Is.rfl))
  refine con_of Tryz.tysOk Tryz.func154 rfl rfl ?_
  conv => whnf
  repeat' (first
    | ((with_reducible refine Nd.mk ?_ ?_); (focus (first | omega | rfl | assumption | (simp; done))); conv => whnf)
    | ((refine Cl.isAt2 0 0 rfl rfl (hf _) ?_); conv => whnf))
  all_goals first | (exfalso; omega) | (refine Is.ent ?_ ?_; (focus (exact Ent.rfl)); (exact Is.rfl))
end Go.Proofs
