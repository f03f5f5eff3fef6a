/- A listing is assembled to the program: the statement DisBack. -/
import Derived.Test.YtloaknocdnpedaaDoorDisE
import Derived.Test.YtloaknocdnpedaaDoorDisR
set_option linter.all false
namespace Go.Proofs
open Go.Eng Go.RowKit
open Classical
set_option linter.unusedVariables false
set_option maxRecDepth 100000
set_option maxHeartbeats 4000000
theorem lstT_len {T : Int → Prop} {e : Nat} (he : e ≤ 60000) : ∀ {l : List Pc} {k : Nat}, chn e k l → (lstT T e l).length ≤ 28 * l.length + 6
  | [], k, h => by
    rw [lstT_nil]
    have := nmS_sz (n := (e : Int)) (by omega)
    split
    · rw [List.length_append, size_list]
      simp only [List.length_cons, List.length_nil]
      omega
    · simp
  | p :: l, k, h => by
    have ih := lstT_len (T := T) he h.2.2
    have hp := pcT_len (T := T) h.2.1
    have hle := chn_le h.2.2
    have hz := pcZ'_pos p
    have := nmS_sz (n := p.a) (by rw [h.1]; omega)
    rw [lstT_cons, List.length_append, List.length_append, List.length_append, List.length_cons]
    have h6 : ((if T p.a then (nmS p.a).data.toList ++ [58, 10] else []) : List UInt8).length ≤ 6 := by
      split
      · rw [List.length_append, size_list]
        simp only [List.length_cons, List.length_nil]
        omega
      · simp
    simp only [List.length_cons, List.length_nil]
    omega
theorem chn_cnt {e : Nat} : ∀ {l : List Pc} {k : Nat}, chn e k l → k + l.length ≤ e
  | [], k, h => chn_le h
  | p :: l, k, h => by
    have := chn_cnt h.2.2
    have := pcZ'_pos p
    rw [List.length_cons]
    omega
theorem Tryd.disBackLaw (s : ByteArray) (L : List HP) (hG : Tryd.Gk L) (hM : Tryd.Mx L) : Con Tryd.prog 5 [.string s] L (Is (.bool true) L) := by
  have hlv := fun L => Tryd.disLive L
  by_cases hs : s.size ≤ 1024
  · have hli := fun L h => Tryd.disListingG s L hs h
    have hch := cut_chn s s.size 0 (by omega)
    have hlen := lstT_len (T := tgt (cutF s 0) s.size) (by omega) hch
    have hcnt := chn_cnt hch
    have has := fun L h => Tryd.asmAssembleF (bsL (lstT (tgt (cutF s 0) s.size) s.size (cutF s 0))) L (by rw [bsL_size]; omega) h
    rw [bsL_list, lst_asm s hs] at has
    have eS : bsL s.data.toList = s := str_ext rfl
    change ∀ L, Tryd.Mx L → Con Tryd.prog 13 [.string (bsL (lstT (tgt (cutF s 0) s.size) s.size (cutF s 0)))] L (Is (.tuple #[.string (bsL s.data.toList), .int .i64 0, .int .i64 0]) L) at has
    rw [eS] at has
    clear hch hlen hcnt eS
    generalize bsL (lstT (tgt (cutF s 0) s.size) s.size (cutF s 0)) = V at *
    refine con_of Tryd.tysOk Tryd.func5 rfl rfl ?_
    conv => whnf
    repeat' (first
      | (first | ((with_reducible refine Br.tt ?_); conv => whnf) | ((with_reducible refine Br.dt ?_ ?_); (focus (first | assumption | omega)); conv => whnf) | ((with_reducible refine Br.df ?_ ?_); (focus (first | assumption | omega)); conv => whnf))
      | ((with_reducible refine Nd.mk ?_ ?_); (focus (first | omega | rfl | assumption | (simp; done))); conv => whnf)
      | (first | ((with_reducible refine Cl.is (hli _ (by ((repeat (first | assumption | apply Tryd.gkCons | apply Tryd.gkApp)); done))) ?_); conv => whnf) | ((with_reducible refine Cl.is (has _ (by ((repeat (first | assumption | apply Tryd.mxCons | apply Tryd.mxApp)); done))) ?_); conv => whnf) | ((with_reducible refine Cl.is (hlv _) ?_); conv => whnf)))
    all_goals first | (exfalso; omega) | (refine Is.ent ?_ ?_; (focus (exact Ent.rfl)); (exact Is.bool (by simp)))
  · have hli := fun L => Tryd.disListingNo s L (by omega)
    refine con_of Tryd.tysOk Tryd.func5 rfl rfl ?_
    conv => whnf
    repeat' (first
      | (first | ((with_reducible refine Br.tt ?_); conv => whnf) | ((with_reducible refine Br.dt ?_ ?_); (focus (first | assumption | omega)); conv => whnf) | ((with_reducible refine Br.yes ?_ ?_); (focus (first | (simp; done) | (simp; omega))); conv => whnf))
      | ((with_reducible refine Nd.mk ?_ ?_); (focus (first | omega | rfl | assumption | (simp; done))); conv => whnf)
      | (first | ((with_reducible refine Cl.is (hli _) ?_); conv => whnf) | ((with_reducible refine Cl.is (hlv _) ?_); conv => whnf)))
    all_goals first | (exfalso; omega) | (refine Is.ent ?_ ?_; (focus (exact Ent.rfl)); (exact Is.rfl))
end Go.Proofs
