/- The engine of bursts: what it writes and reads, and the document's bursts. -/
import Derived.Test.YtpdgkadpffnmpaaDma
set_option linter.all false
namespace Go.Proofs
open Go.Eng
set_option linter.unusedVariables false
set_option maxRecDepth 100000
set_option maxHeartbeats 1000000
/-- where a burst begins, or why it is refused -/
def askF (xs : List Rg) (len : Nat) (o p n : Int) : Int × Int :=
  if 32 < n then (0, 4) else if (mapF xs o p n).2 ≠ 0 then (0, (mapF xs o p n).2) else if thr len (mapF xs o p n).1 n then ((mapF xs o p n).1, 0) else (0, 6)
theorem mapF_no {xs : List Rg} {o p n : Int} (h : (mapF xs o p n).2 ≠ 0) : mapF xs o p n = (0, (mapF xs o p n).2) := by
  unfold mapF at *
  repeat' split
  all_goals first | rfl | (exfalso; simp_all)
theorem mapF_ok {xs : List Rg} {o p n : Int} (hx : rgOk xs xs.length) (h : (mapF xs o p n).2 = 0) : 0 ≤ n ∧ 128 ≤ (mapF xs o p n).1 ∧ (mapF xs o p n).1 ≤ 16384 ∧ 1 ≤ o ∧ o ≤ 8 := by
  have hf := fnd_may hx o
  have ho : (fndF xs o).1 = o ∨ (fndF xs o).1 = 0 := by
    rcases fnd_cases xs o with ⟨k, hk, e, e2⟩ | ⟨_, e⟩
    · left; rw [e2]; exact e
    · right; rw [e]
  unfold mapF at *
  generalize fndF xs o = f at *
  obtain ⟨f1, f2, f3⟩ := f
  dsimp only at *
  have hf' : f1 = 0 ∨ mayR f1 f2 f3 := by
    rcases hf with hf | hf
    · exact .inr hf
    · simp only [Prod.mk.injEq] at hf; exact .inl hf.1
  by_cases h0 : f1 = 0
  · rw [if_pos h0] at h; exact absurd h (by decide)
  · rw [if_neg h0] at h ⊢
    by_cases h1 : n < 0
    · rw [if_pos h1] at h; exact absurd h (by decide)
    · rw [if_neg h1] at h ⊢
      by_cases h2 : p < 0 ∨ f3 < p ∨ f3 - p < n
      · rw [if_pos h2] at h; exact absurd h (by decide)
      · rw [if_neg h2]
        rcases hf' with hf' | hf'
        · exact (h0 hf').elim
        · simp only; omega
theorem askF_ok {xs : List Rg} {len : Nat} {o p n : Int} (hx : rgOk xs xs.length) (h : (askF xs len o p n).2 = 0) : ¬ 32 < n ∧ mapF xs o p n = ((askF xs len o p n).1, 0) ∧ thr len (askF xs len o p n).1 n ∧ 0 ≤ n ∧ 1 ≤ o ∧ o ≤ 8 := by
  unfold askF at *
  by_cases h0 : 32 < n
  · rw [if_pos h0] at h; exact absurd h (by decide)
  · rw [if_neg h0] at h ⊢
    by_cases h1 : (mapF xs o p n).2 ≠ 0
    · rw [if_pos h1] at h; exact (h1 h).elim
    · rw [if_neg h1] at h ⊢
      have h1 := Classical.not_not.1 h1
      have hm := mapF_ok hx h1
      by_cases h2 : thr len (mapF xs o p n).1 n
      · rw [if_pos h2]
        exact ⟨h0, Prod.ext rfl h1, h2, hm.1, hm.2.2.2.1, hm.2.2.2.2⟩
      · rw [if_neg h2] at h; exact absurd h (by decide)
theorem askF_bd {xs : List Rg} {len : Nat} {o p n : Int} : I64 (askF xs len o p n).2 ∧ ((askF xs len o p n).2 = 4 ∨ (askF xs len o p n).2 = 7 ∨ (askF xs len o p n).2 = 2 ∨ (askF xs len o p n).2 = 6 ∨ (askF xs len o p n).2 = 0) := by
  unfold askF mapF
  repeat' split
  all_goals first | exact ⟨⟨by decide, by decide⟩, by decide⟩ | (refine ⟨⟨?_, ?_⟩, ?_⟩ <;> simp; done) | (exfalso; simp_all; done)
/-- a burst -/
abbrev Bd := Int × Int × Int × Int × Bool × ByteArray
def bdE : Enc Bd := ⟨6, fun d => [i64V d.1, i64V d.2.1, i64V d.2.2.1, i64V d.2.2.2.1, .bool d.2.2.2.2.1, .string d.2.2.2.2.2], (0, 0, 0, 0, false, ByteArray.empty), fun _ => rfl, by omega, fun _ => rfl⟩
abbrev bdV (t o p n : Int) (w : Bool) (s : ByteArray) : Value := .agg #[i64V t, i64V o, i64V p, i64V n, .bool w, .string s]
def szF (n : Int) (w : Bool) (s : ByteArray) : Int := if w = true then s.size else n
theorem Try.refSize6 (t o p n : Int) (w : Bool) (s : ByteArray) (L : List HP) : Con Try.prog 14 [bdV t o p n w s] L (Is (i64V (szF n w s)) L) := by
  cases w with
  | true =>
    have e : szF n true s = s.size := rfl
    rw [e]
    refine con_of Try.tysOk Try.func14 rfl rfl ?_
    conv => whnf
    repeat' (first
      | ((with_reducible refine Br.tt ?_); conv => whnf)
      | ((with_reducible refine Nc.go' (fun _ => ?_)); conv => whnf)
      | (refine Ld.at 0 rfl rfl ?_; conv => whnf))
    all_goals (refine Is.ent ?_ ?_; (focus (refine FEnt.ent ?_; (repeat (first | exact FEnt.rfl | refine FEnt.drop ?_)); done)); (exact Is.rfl))
  | false =>
    have e : szF n false s = n := rfl
    rw [e]
    refine con_of Try.tysOk Try.func14 rfl rfl ?_
    conv => whnf
    repeat' (first
      | ((with_reducible refine Br.ff ?_); conv => whnf)
      | ((with_reducible refine Nc.go' (fun _ => ?_)); conv => whnf)
      | (refine Ld.at 0 rfl rfl ?_; conv => whnf))
    all_goals (refine Is.ent ?_ ?_; (focus (refine FEnt.ent ?_; (repeat (first | exact FEnt.rfl | refine FEnt.drop ?_)); done)); (exact Is.rfl))
theorem Try.refAsk (a a' : Option Addr) (c c' : Nat) (xs : List Rg) (len : Nat) (t o p n : Int) (w : Bool) (s : ByteArray) (L : List HP) (hl : xs.length ≤ 8) (hx : rgOk xs xs.length) (hlen : len ≤ 20000) (hb : I64 p ∧ I64 n) (hs : s.size ≤ 9223372036854775807) (hr : Rd rgE L a xs) :
    Con Try.prog 31 [.slice a xs.length c, .slice a' len c', bdV t o p n w s] L (Is (.tuple #[i64V (askF xs len o p (szF n w s)).1, i64V (askF xs len o p (szF n w s)).2]) L) := by
  have hz : I64 (szF n w s) := by unfold szF; split <;> omega
  have hsz := fun L => Try.refSize6 t o p n w s L
  have hmp := fun L h => Try.refMap a c xs o p (szF n w s) L hl hx ⟨hb.1, hz⟩ h
  generalize szF n w s = z at *
  unfold askF
  by_cases h0 : 32 < z
  · rw [if_pos h0]
    refine con_of Try.tysOk Try.func31 rfl rfl ?_
    conv => whnf
    repeat' (first
      | ((with_reducible refine Br.dt ?_ ?_); (focus (first | assumption | omega)); conv => whnf)
      | ((with_reducible refine Nc.go' (fun _ => ?_)); conv => whnf)
      | (refine LdN.at 0 rfl (by first | exact Nat.le_of_ble_eq_true rfl | (simp; done)) ?_; conv => whnf)
      | ((with_reducible refine Cl.is (hsz _) ?_); conv => whnf))
    all_goals (refine Is.ent ?_ ?_; (focus (refine FEnt.ent ?_; (repeat (first | exact FEnt.rfl | refine FEnt.drop ?_)); done)); (exact Is.rfl))
  · rw [if_neg h0]
    by_cases h1 : (mapF xs o p z).2 ≠ 0
    · rw [if_pos h1]
      by_cases h2 : o < 1
      · have e : mapF xs o p z = (0, 7) := by
          have hno : fndF xs o = (0, 0, 0) := by
            rcases fnd_cases xs o with ⟨k, hk, e, e2⟩ | ⟨_, e⟩
            · have := (hx k hk).1; omega
            · exact e
          unfold mapF
          rw [hno, if_pos rfl]
        rw [e] at hmp ⊢
        refine con_of Try.tysOk Try.func31 rfl rfl ?_
        conv => whnf
        repeat' (first
          | (first | ((with_reducible refine Br.dt ?_ ?_); (focus (first | assumption | omega)); conv => whnf) | ((with_reducible refine Br.df ?_ ?_); (focus (first | assumption | omega)); conv => whnf))
          | ((with_reducible refine Nd.mk ?_ ?_); (focus (first | omega | rfl | assumption | (simp; done))); conv => whnf)
          | ((with_reducible refine Nc.go' (fun _ => ?_)); conv => whnf)
          | (refine Ld.at 0 rfl rfl ?_; conv => whnf)
          | (refine LdN.at 0 rfl (by first | exact Nat.le_of_ble_eq_true rfl | (simp; done)) ?_; conv => whnf)
          | ((with_reducible refine Dr.by (id := 3) Try.tysOk rfl [(0, 0), (1, 0), (3, 0), (2, 1), (4, 1), (5, 1), (6, 1), (7, 1), (8, 0), (9, 0), (10, 0), (11, 0), (12, 0)] ?_ ?_); (focus kernel_rfl); conv => whnf)
          | (first | ((with_reducible refine CD.is (fun M => hsz _) ?_); conv => whnf) | ((with_reducible refine (?_ : CD _ 48 _ _ _)); (refine CD.is (fun M => hmp _ (by ((repeat (first | assumption | apply Rd.cons | apply Rd.app)); done))) ?_); conv => whnf))
          | ((with_reducible refine Cl.is (hsz _) ?_); conv => whnf))
        all_goals (refine Is.ent ?_ ?_; (focus (refine FEnt.ent ?_; (repeat (first | exact FEnt.rfl | refine FEnt.drop ?_)); done)); (exact Is.rfl))
      · have e := mapF_no h1
        generalize (mapF xs o p z).2 = e2 at *
        rw [e] at hmp
        refine con_of Try.tysOk Try.func31 rfl rfl ?_
        conv => whnf
        repeat' (first
          | (first | ((with_reducible refine Br.df ?_ ?_); (focus (first | assumption | omega)); conv => whnf) | ((with_reducible refine Br.ndt ?_ ?_); (focus (first | assumption | omega)); conv => whnf))
          | ((with_reducible refine Nd.mk ?_ ?_); (focus (first | omega | rfl | assumption | (simp; done))); conv => whnf)
          | ((with_reducible refine Nc.go' (fun _ => ?_)); conv => whnf)
          | (refine Ld.at 0 rfl rfl ?_; conv => whnf)
          | (refine LdN.at 0 rfl (by first | exact Nat.le_of_ble_eq_true rfl | (simp; done)) ?_; conv => whnf)
          | ((with_reducible refine Dr.by (id := 3) Try.tysOk rfl [(0, 0), (1, 0), (3, 0), (2, 1), (4, 1), (5, 1), (6, 1), (7, 1), (8, 0), (9, 0), (10, 0), (11, 0), (12, 0)] ?_ ?_); (focus kernel_rfl); conv => whnf)
          | (first | ((with_reducible refine CD.is (fun M => hsz _) ?_); conv => whnf) | ((with_reducible refine (?_ : CD _ 48 _ _ _)); (refine CD.is (fun M => hmp _ (by ((repeat (first | assumption | apply Rd.cons | apply Rd.app)); done))) ?_); conv => whnf))
          | ((with_reducible refine Cl.is (hsz _) ?_); conv => whnf))
        all_goals (refine Is.ent ?_ ?_; (focus (refine FEnt.ent ?_; (repeat (first | exact FEnt.rfl | refine FEnt.drop ?_)); done)); (exact Is.rfl))
    · rw [if_neg h1]
      have h1 := Classical.not_not.1 h1
      have hm := mapF_ok hx h1
      have e : mapF xs o p z = ((mapF xs o p z).1, 0) := Prod.ext rfl h1
      generalize (mapF xs o p z).1 = q at *
      rw [e] at hmp
      by_cases h2 : thr len q z
      · rw [if_pos h2]
        refine con_of Try.tysOk Try.func31 rfl rfl ?_
        conv => whnf
        repeat' (first
          | (first | ((with_reducible refine Br.nt ?_); conv => whnf) | ((with_reducible refine Br.df ?_ ?_); (focus (first | assumption | omega)); conv => whnf) | ((with_reducible refine Br.ndf ?_ ?_); (focus (first | assumption | omega)); conv => whnf))
          | ((with_reducible refine Nd.mk ?_ ?_); (focus (first | omega | rfl | assumption | (simp; done))); conv => whnf)
          | ((with_reducible refine Nc.go' (fun _ => ?_)); conv => whnf)
          | (refine Ld.at 0 rfl rfl ?_; conv => whnf)
          | (refine LdN.at 0 rfl (by first | exact Nat.le_of_ble_eq_true rfl | (simp; done)) ?_; conv => whnf)
          | ((with_reducible refine Dr.by (id := 3) Try.tysOk rfl [(0, 0), (1, 0), (3, 0), (2, 1), (4, 1), (5, 1), (6, 1), (7, 1), (8, 0), (9, 0), (10, 0), (11, 0), (12, 0)] ?_ ?_); (focus kernel_rfl); conv => whnf)
          | (first | ((with_reducible refine CD.is (fun M => hsz _) ?_); conv => whnf) | ((with_reducible refine (?_ : CD _ 48 _ _ _)); (refine CD.is (fun M => hmp _ (by ((repeat (first | assumption | apply Rd.cons | apply Rd.app)); done))) ?_); conv => whnf))
          | (first | ((with_reducible refine Cl.is (hsz _) ?_); conv => whnf) | ((with_reducible refine Cl.is (Try.refThereT a' c' len q z _ (by omega) hz hm.1 h2) ?_); conv => whnf)))
        all_goals (refine Is.ent ?_ ?_; (focus (refine FEnt.ent ?_; (repeat (first | exact FEnt.rfl | refine FEnt.drop ?_)); done)); (exact Is.rfl))
      · rw [if_neg h2]
        refine con_of Try.tysOk Try.func31 rfl rfl ?_
        conv => whnf
        repeat' (first
          | (first | ((with_reducible refine Br.nf ?_); conv => whnf) | ((with_reducible refine Br.df ?_ ?_); (focus (first | assumption | omega)); conv => whnf) | ((with_reducible refine Br.ndf ?_ ?_); (focus (first | assumption | omega)); conv => whnf))
          | ((with_reducible refine Nd.mk ?_ ?_); (focus (first | omega | rfl | assumption | (simp; done))); conv => whnf)
          | ((with_reducible refine Nc.go' (fun _ => ?_)); conv => whnf)
          | (refine Ld.at 0 rfl rfl ?_; conv => whnf)
          | (refine LdN.at 0 rfl (by first | exact Nat.le_of_ble_eq_true rfl | (simp; done)) ?_; conv => whnf)
          | ((with_reducible refine Dr.by (id := 3) Try.tysOk rfl [(0, 0), (1, 0), (3, 0), (2, 1), (4, 1), (5, 1), (6, 1), (7, 1), (8, 0), (9, 0), (10, 0), (11, 0), (12, 0)] ?_ ?_); (focus kernel_rfl); conv => whnf)
          | (first | ((with_reducible refine CD.is (fun M => hsz _) ?_); conv => whnf) | ((with_reducible refine (?_ : CD _ 48 _ _ _)); (refine CD.is (fun M => hmp _ (by ((repeat (first | assumption | apply Rd.cons | apply Rd.app)); done))) ?_); conv => whnf))
          | (first | ((with_reducible refine Cl.is (hsz _) ?_); conv => whnf) | ((with_reducible refine Cl.is (Try.refThereF a' c' len q z _ (by omega) ⟨by omega, by omega⟩ hz hm.1 h2) ?_); conv => whnf)))
        all_goals (refine Is.ent ?_ ?_; (focus (refine FEnt.ent ?_; (repeat (first | exact FEnt.rfl | refine FEnt.drop ?_)); done)); (exact Is.rfl))
/-! what the engine does -/
theorem Try.dmaWrite1 (be bs bm bt n c : Nat) (a : Option Addr) (nr nw : Nat → Int) (q : Int) (s : ByteArray) (X Y Z W : HP) (M : List UInt8) (L : List HP) (hl : M.length ≤ 1000000) (hq : I64 q) (hs : s.size ≤ 9223372036854775807) (h : ¬ thr M.length q s.size) (b0 : Nat) :
    Con Try.prog 37 [i64V q, pV b0, pV bs] (X :: ptc be 79 (engC bm bt a n c nr nw) :: Y :: Z :: W :: ptc b0 33 [pV be] :: ptc bs 9 [.string s] :: Try.memH bm M :: L) (Is (i64V 6) (X :: ptc be 79 (engC bm bt a n c nr nw) :: Y :: Z :: W :: ptc b0 33 [pV be] :: ptc bs 9 [.string s] :: Try.memH bm M :: L)) := by
  refine con_of Try.tysOk Try.func37 rfl rfl ?_
  conv => whnf
  repeat' (first
    | (first | (refine Ld.at 1 rfl rfl ?_; conv => whnf) | (refine Ld.at 5 rfl rfl ?_; conv => whnf) | (refine Ld.at 6 rfl rfl ?_; conv => whnf))
    | ((with_reducible refine Dr.by (id := 1) Try.tysOk rfl [(4, 0), (0, 1), (1, 0), (2, 0), (3, 1), (5, 1), (6, 3), (7, 0)] ?_ ?_); (focus kernel_rfl); conv => whnf)
    | ((refine Cl.isAt 7 rfl (Try.memPutNo _ _ _ _ _ (by omega) hq hs h) ?_); conv => whnf))
  all_goals (refine Is.ent ?_ ?_; (focus (exact Ent.rfl)); (exact Is.rfl))
theorem Try.dmaWrite2 (be bs bm bt n c : Nat) (a : Option Addr) (nr nw : Nat → Int) (k : Nat) (q : Int) (s : ByteArray) (X Y Z W : HP) (M : List UInt8) (L : List HP) (hl : M.length ≤ 1000000) (hq : q = k) (h : k + s.size ≤ M.length) (b0 : Nat) :
    Con Try.prog 37 [i64V q, pV b0, pV bs] (X :: ptc be 79 (engC bm bt a n c nr nw) :: Y :: Z :: W :: ptc b0 33 [pV be] :: ptc bs 9 [.string s] :: Try.memH bm M :: L) (Is (i64V 0) (X :: ptc be 79 (engC bm bt a n c nr nw) :: Y :: Z :: W :: ptc b0 33 [pV be] :: ptc bs 9 [.string s] :: Try.memH bm (lay M k s.data.toList) :: L)) := by
  have hpt := fun L => Try.memPut bm M k q s L (by omega) hq h
  generalize lay M k s.data.toList = M2 at *
  refine con_of Try.tysOk Try.func37 rfl rfl ?_
  conv => whnf
  repeat' (first
    | (first | (refine Ld.at 1 rfl rfl ?_; conv => whnf) | (refine Ld.at 5 rfl rfl ?_; conv => whnf) | (refine Ld.at 6 rfl rfl ?_; conv => whnf))
    | ((with_reducible refine Dr.by (id := 1) Try.tysOk rfl [(4, 0), (0, 1), (1, 0), (2, 0), (3, 1), (5, 1), (6, 3), (7, 0)] ?_ ?_); (focus kernel_rfl); conv => whnf)
    | ((refine Cl.isAt 7 rfl (hpt _) ?_); conv => whnf))
  all_goals (refine Is.ent ?_ ?_; (focus (exact Ent.rfl)); (exact Is.rfl))
/-- the engine, its table, its records -/
abbrev Try.engP (be bm bt m c : Nat) (a : Option Addr) (rs : List Rec) (nr nw : Nat → Int) (xs : List Rg) : List HP := [ptc be 79 (engC bm bt a rs.length c nr nw), ptc bt 74 [.map (some m)], mapH m (.int .i64) (xs.map kvR), own recE 45 a c rs]
/-- what is put down -/
def recF (rs : List Rec) (t o p n : Int) (w : Bool) (e : Int) : List Rec := if e = 0 then rs else rs ++ [(t, o, p, n, w, e)]
theorem recF_len (rs : List Rec) (t o p n : Int) (w : Bool) (e : Int) : rs.length ≤ (recF rs t o p n w e).length ∧ (recF rs t o p n w e).length ≤ rs.length + 1 := by
  unfold recF; split <;> simp
theorem Try.dmaWriteNil (t o p : Int) (s : ByteArray) (L : List HP) : Con Try.prog 20 [.pointer none, i64V t, i64V o, i64V p, .string s] L (Is (i64V 1) L) := by
  refine con_of Try.tysOk Try.func20 rfl rfl ?_
  conv => whnf
  repeat' (first
    | ((with_reducible refine Br.df ?_ ?_); (focus (first | assumption | omega)); conv => whnf)
    | ((with_reducible refine Nc.go' (fun _ => ?_)); conv => whnf)
    | (first | (refine Ld.at 0 rfl rfl ?_; conv => whnf) | (refine Ld.at 1 rfl rfl ?_; conv => whnf))
    | ((with_reducible refine Cl.is (Try.dmaBurstNil _ _ _ _ _ _ _ _) ?_); conv => whnf))
  all_goals (refine Is.ent ?_ ?_; (focus (refine FEnt.ent ?_; (repeat (first | exact FEnt.rfl | refine FEnt.drop ?_)); done)); (exact Is.rfl))
theorem Try.dmaReadNil (t o p n : Int) (L : List HP) : Con Try.prog 26 [.pointer none, i64V t, i64V o, i64V p, i64V n] L (Is (.tuple #[.string ⟨#[]⟩, i64V 1]) L) := by
  refine con_of Try.tysOk Try.func26 rfl rfl ?_
  conv => whnf
  repeat' (first
    | ((with_reducible refine Br.ndt ?_ ?_); (focus (first | assumption | omega)); conv => whnf)
    | ((with_reducible refine Nd.mk ?_ ?_); (focus (first | omega | rfl | assumption | (simp; done))); conv => whnf)
    | ((with_reducible refine Nc.go' (fun _ => ?_)); conv => whnf)
    | (first | (refine Ld.at 1 rfl rfl ?_; conv => whnf) | (refine Ld.at 2 rfl rfl ?_; conv => whnf))
    | (refine St.at 0 rfl (by first | exact Nat.le_of_ble_eq_true rfl | (simp; done)) rfl ?_; conv => whnf)
    | ((with_reducible refine Cl.is (Try.dmaBurstNil _ _ _ _ _ _ _ _) ?_); conv => whnf))
  all_goals (refine Is.ent ?_ ?_; (focus (refine FEnt.ent ?_; (repeat (first | exact FEnt.rfl | refine FEnt.drop ?_)); done)); (exact Is.rfl))
theorem askF_no {xs : List Rg} {len : Nat} {o p n : Int} (h : (askF xs len o p n).2 ≠ 0) : ((32 < n ∧ (askF xs len o p n).2 = 4) ∨ (¬ 32 < n ∧ mapF xs o p n = (0, (askF xs len o p n).2))) ∨ (¬ 32 < n ∧ (∃ q, mapF xs o p n = (q, 0) ∧ ¬ thr len q n) ∧ (askF xs len o p n).2 = 6) := by
  unfold askF at *
  by_cases h0 : 32 < n
  · rw [if_pos h0]; exact .inl (.inl ⟨h0, rfl⟩)
  · rw [if_neg h0] at h ⊢
    by_cases h1 : (mapF xs o p n).2 ≠ 0
    · rw [if_pos h1]; exact .inl (.inr ⟨h0, mapF_no h1⟩)
    · rw [if_neg h1] at h ⊢
      have h1 := Classical.not_not.1 h1
      by_cases h2 : thr len (mapF xs o p n).1 n
      · rw [if_pos h2] at h; exact (h rfl).elim
      · rw [if_neg h2]; exact .inr ⟨h0, ⟨_, Prod.ext rfl h1, h2⟩, rfl⟩
/-- bytes are written at an owner's address -/
theorem Try.dmaWrite (be bm bt m c : Nat) (a : Option Addr) (rs : List Rec) (nr nw : Nat → Int) (xs : List Rg) (t o p : Int) (s : ByteArray) (M : List UInt8) (L : List HP) (hl : rs.length ≤ 1000) (had : Ad a rs.length) (hcap : rs.length ≤ c) (hx : rgOk xs xs.length) (hp : I64 p) (hs : s.size ≤ 100000) (hM : M.length ≤ 20000) (hnw : ∀ i, 0 ≤ nw i ∧ nw i ≤ 1000000000) :
    Con Try.prog 20 [pV be, i64V t, i64V o, i64V p, .string s] (Try.engP be bm bt m c a rs nr nw xs ++ Try.memH bm M :: L)
      (Exs (fun y : Option Addr × Nat => i64V (askF xs M.length o p s.size).2) (fun y => Try.engP be bm bt m y.2 y.1 (recF rs t o p s.size true (askF xs M.length o p s.size).2) nr (if (askF xs M.length o p s.size).2 = 0 then upd nw o.toNat (nw o.toNat + s.size) else nw) xs ++ Try.memH bm (if (askF xs M.length o p s.size).2 = 0 then lay M (askF xs M.length o p s.size).1.toNat s.data.toList else M) :: L)
        (fun y => (recF rs t o p s.size true (askF xs M.length o p s.size).2).length ≤ y.2 ∧ Ad y.1 (recF rs t o p s.size true (askF xs M.length o p s.size).2).length)) := by
  simp only [Try.engP, List.cons_append, List.nil_append]
  have hsz := size_list s
  by_cases h0 : (askF xs M.length o p s.size).2 = 0
  · have hok := askF_ok hx h0
    have er : recF rs t o p s.size true (askF xs M.length o p s.size).2 = rs := if_pos h0
    rw [er, if_pos h0, if_pos h0, h0]
    obtain ⟨g1, g2, g3, g4, g5, g6⟩ := hok
    generalize (askF xs M.length o p s.size).1 = q at *
    obtain ⟨k, rfl⟩ := Int.eq_ofNat_of_zero_le g3.1
    rw [Int.toNat_natCast]
    have hno := hnw o.toNat
    have hbo := fun (b0 bs : Nat) L => Try.dmaBurstOk be bm bt m c a rs nr nw xs t o p s.size k true 37 [pV b0, pV bs] (ptc b0 33 [pV be] :: ptc bs 9 [.string s] :: Try.memH bm M :: L) _ hx ⟨hp, ⟨by omega, by omega⟩⟩ g1 g2 (fun X Y Z W => Try.dmaWrite2 be bs bm bt _ c a nr nw k k s X Y Z W M L (by omega) rfl (by omega) b0)
    generalize lay M k s.data.toList = M2 at *
    generalize xs.map kvR = es at *
    refine con_of Try.tysOk Try.func20 rfl rfl ?_
    conv => whnf
    repeat' (first
      | ((with_reducible refine Br.dt ?_ ?_); (focus (first | assumption | omega)); conv => whnf)
      | ((with_reducible refine Ar.i64 ?_ ?_); (focus omega); conv => whnf)
      | ((with_reducible refine Nd.mk ?_ ?_); (focus (first | omega | rfl | assumption | (simp; done))); conv => whnf)
      | ((with_reducible refine Nc.go' (fun _ => ?_)); conv => whnf)
      | ((with_reducible refine Ix.arr ?_ ?_); (focus (omega)); conv => whnf)
      | (first | (refine Ld.eW 0 rfl ?_ ?_; (focus (omega)); conv => whnf) | (refine Ld.at 0 rfl rfl ?_; conv => whnf) | (refine Ld.at 1 rfl rfl ?_; conv => whnf) | (refine Ld.at 4 rfl rfl ?_; conv => whnf) | (refine Ld.at 5 rfl rfl ?_; conv => whnf))
      | (refine St.eW 0 rfl ?_ ?_; (focus (omega)); conv => whnf)
      | ((with_reducible refine Dr.by (id := 3) Try.tysOk rfl [(1, 0), (0, 1), (2, 0), (3, 0), (4, 0), (9, 0), (10, 0), (5, 1), (6, 1), (7, 0), (8, 0), (11, 0), (12, 3)] ?_ ?_); (focus kernel_rfl); conv => whnf)
      | (apply (Cl.pre [ptc be _ _, ptc bt _ _, mapH m _ _, own recE _ a c rs, ptc _ 33 _, ptc _ 9 _, Try.memH bm M]); (focus (repeat (first | exact FEnt.rfl | (refine FEnt.at 1 rfl ?_; (try simp only [List.eraseIdx_cons_zero, List.eraseIdx_cons_succ, List.eraseIdx_zero, List.tail_cons])) | (refine FEnt.at 2 rfl ?_; (try simp only [List.eraseIdx_cons_zero, List.eraseIdx_cons_succ, List.eraseIdx_zero, List.tail_cons])))); done); refine Cl.is (hbo _ _ _) ?_; conv => whnf))
    all_goals exact Exs.of ((a, c) : Option Addr × Nat) (by (try dsimp only); (refine FEnt.ent ?_; (repeat (first | exact FEnt.rfl | (refine FEnt.at 0 rfl ?_; (try simp only [List.eraseIdx_cons_zero, List.eraseIdx_cons_succ, List.eraseIdx_zero, List.tail_cons])) | (refine FEnt.at 2 rfl ?_; (try simp only [List.eraseIdx_cons_zero, List.eraseIdx_cons_succ, List.eraseIdx_zero, List.tail_cons])) | refine FEnt.drop ?_)); done)) ⟨hcap, had⟩ rfl
  · have er : recF rs t o p s.size true (askF xs M.length o p s.size).2 = rs ++ [(t, o, p, (s.size : Int), true, (askF xs M.length o p s.size).2)] := if_neg h0
    rw [er, if_neg h0, if_neg h0]
    rcases askF_no h0 with h1 | ⟨h1, ⟨q, h2, h3⟩, h4⟩
    · have hbo := fun v L => Try.dmaBurstNo be bm bt m c a rs nr nw xs t o p s.size true _ v L (by omega) had hx ⟨hp, ⟨by omega, by omega⟩⟩ h0 h1
      generalize (askF xs M.length o p s.size).2 = e at *
      generalize xs.map kvR = es at *
      refine con_of Try.tysOk Try.func20 rfl rfl ?_
      conv => whnf
      repeat' (first
        | ((with_reducible refine Br.df ?_ ?_); (focus (first | assumption | omega)); conv => whnf)
        | ((with_reducible refine Nc.go' (fun _ => ?_)); conv => whnf)
        | (first | (refine Ld.at 0 rfl rfl ?_; conv => whnf) | (refine Ld.at 1 rfl rfl ?_; conv => whnf))
        | (apply (Cl.pre [ptc be _ _, ptc bt _ _, mapH m _ _, own recE _ a c rs]); (focus ((repeat (first | exact FEnt.rfl | (refine FEnt.at 2 rfl ?_; (try simp only [List.eraseIdx_cons_zero, List.eraseIdx_cons_succ, List.eraseIdx_zero, List.tail_cons])))); done)); refine Cl.exs (hbo _ _) ?_; rintro ⟨a2, c2⟩ ⟨hc2, had2⟩; conv => whnf))
      all_goals exact Exs.of ((a2, c2) : Option Addr × Nat) (by (try dsimp only); (refine FEnt.ent ?_; (repeat (first | exact FEnt.rfl | (refine FEnt.at 0 rfl ?_; (try simp only [List.eraseIdx_cons_zero, List.eraseIdx_cons_succ, List.eraseIdx_zero, List.tail_cons])) | (refine FEnt.at 2 rfl ?_; (try simp only [List.eraseIdx_cons_zero, List.eraseIdx_cons_succ, List.eraseIdx_zero, List.tail_cons])) | refine FEnt.drop ?_)); done)) ⟨hc2, had2⟩ rfl
    · have hmq := mapF_ok hx (congrArg Prod.snd h2)
      rw [h2] at hmq
      have hbo := fun (b0 bs : Nat) L => Try.dmaBurstMem be bm bt m c a rs nr nw xs t o p s.size q true 6 37 [pV b0, pV bs] (ptc b0 33 [pV be] :: ptc bs 9 [.string s] :: Try.memH bm M :: L) (by omega) had hx ⟨hp, ⟨by omega, by omega⟩⟩ (by decide) h1 h2 (fun X Y Z W => Try.dmaWrite1 be bs bm bt _ c a nr nw q s X Y Z W M L (by omega) ⟨by omega, by omega⟩ (by omega) h3 b0)
      rw [h4]
      generalize xs.map kvR = es at *
      refine con_of Try.tysOk Try.func20 rfl rfl ?_
      conv => whnf
      repeat' (first
        | ((with_reducible refine Br.df ?_ ?_); (focus (first | assumption | omega)); conv => whnf)
        | ((with_reducible refine Nc.go' (fun _ => ?_)); conv => whnf)
        | (first | (refine Ld.at 0 rfl rfl ?_; conv => whnf) | (refine Ld.at 1 rfl rfl ?_; conv => whnf))
        | (apply (Cl.pre [ptc be _ _, ptc bt _ _, mapH m _ _, own recE _ a c rs, ptc _ 33 _, ptc _ 9 _, Try.memH bm M]); (focus ((repeat (first | exact FEnt.rfl | (refine FEnt.at 1 rfl ?_; (try simp only [List.eraseIdx_cons_zero, List.eraseIdx_cons_succ, List.eraseIdx_zero, List.tail_cons])) | (refine FEnt.at 2 rfl ?_; (try simp only [List.eraseIdx_cons_zero, List.eraseIdx_cons_succ, List.eraseIdx_zero, List.tail_cons])))); done)); refine Cl.exs (hbo _ _ _) ?_; rintro ⟨a2, c2⟩ ⟨hc2, had2⟩; conv => whnf))
      all_goals exact Exs.of ((a2, c2) : Option Addr × Nat) (by (try dsimp only); (refine FEnt.ent ?_; (repeat (first | exact FEnt.rfl | (refine FEnt.at 0 rfl ?_; (try simp only [List.eraseIdx_cons_zero, List.eraseIdx_cons_succ, List.eraseIdx_zero, List.tail_cons])) | (refine FEnt.at 2 rfl ?_; (try simp only [List.eraseIdx_cons_zero, List.eraseIdx_cons_succ, List.eraseIdx_zero, List.tail_cons])) | refine FEnt.drop ?_)); done)) ⟨hc2, had2⟩ rfl
end Go.Proofs
