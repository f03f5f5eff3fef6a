/- How many slots tables have, where what is read is of bounded bulk. -/
import Derived.Test.YtaacolkdlmfifaaRows
import Derived.Test.YtaacolkdlmfifaaConfOp
set_option linter.all false
namespace Go.Proofs
open Go.Eng Go.ChangeShapes Go.WideShapes Go.RowKit
set_option linter.unusedVariables false
theorem bulk_one {H : Type} (d : DataW H) : 1 ≤ Ytaacolkdlmfifaa.Rows.uptoBulk d := by
  cases d with
  | lit l => cases l <;> simp [Ytaacolkdlmfifaa.Rows.uptoBulk]
  | nil => simp [Ytaacolkdlmfifaa.Rows.uptoBulk]
  | ptr d => simp [Ytaacolkdlmfifaa.Rows.uptoBulk]
  | slice elems spare => simp [Ytaacolkdlmfifaa.Rows.uptoBulk]
  | agg parts => simp [Ytaacolkdlmfifaa.Rows.uptoBulk]
  | iface t d => simp [Ytaacolkdlmfifaa.Rows.uptoBulk]
  | map entries => simp [Ytaacolkdlmfifaa.Rows.uptoBulk]
  | held h => simp [Ytaacolkdlmfifaa.Rows.uptoBulk]
theorem bulk_part {H : Type} {d : DataW H} {l : List (DataW H)} (h : d ∈ l) : Ytaacolkdlmfifaa.Rows.uptoBulk d ≤ Ytaacolkdlmfifaa.Rows.uptoBulkAll l := by
  induction l with
  | nil => cases h
  | cons x r ih =>
    simp only [Ytaacolkdlmfifaa.Rows.uptoBulkAll]
    rcases List.mem_cons.1 h with e | e
    · subst e; omega
    · have := ih e; omega
theorem bulk_len {H : Type} (l : List (DataW H)) : l.length ≤ Ytaacolkdlmfifaa.Rows.uptoBulkAll l := by
  induction l with
  | nil => simp [Ytaacolkdlmfifaa.Rows.uptoBulkAll]
  | cons x r ih => have := bulk_one x; simp only [Ytaacolkdlmfifaa.Rows.uptoBulkAll, List.length_cons]; omega
theorem Try.cfg_bulk {H : Type} {enc : TypeId × Value → H} {W : World} {spx : Nat → Bool} {held : Bool} {fuel : Nat} {C : Cfg} {x : DataW H × List MemPlace} (h : DataW.trod enc Try.prog W 0 spx held fuel 30 (cfC C) = some x) : C.ss.length ≤ Ytaacolkdlmfifaa.Rows.uptoBulk x.1 := by
  obtain ⟨xs, n, _, rfl, hl, hlen, hg⟩ := DataW.trod_struct Try.underlying30 h
  have g2 := hg 2 _ rfl
  have h2 : 2 < xs.length := by rw [hlen]; decide
  rw [List.getElem?_eq_getElem h2, show Try.prog.cellsOf _ = 1 from by kernel_rfl] at g2
  have g3 : DataW.trod enc Try.prog W 0 spx held n 27 [.slice C.sa C.ss.length C.sc] = some xs[2] := g2
  have hm := bulk_part (List.mem_map.2 ⟨xs[2], List.getElem_mem h2, rfl⟩ : xs[2].1 ∈ xs.map (·.1))
  have hle : C.ss.length ≤ Ytaacolkdlmfifaa.Rows.uptoBulk xs[2].1 := by
    rcases DataW.trod_slice Try.underlying27 g3 with ⟨hcs, hx⟩ | ⟨a, len, cap, elems, rest, m, _, hcs, hx, _, _, _, hel, _⟩
    · injection hcs with h1 _
      injection h1 with _ h2 _
      omega
    · injection hcs with h1 _
      injection h1 with _ h2 _
      rw [hx]
      have := bulk_len (elems.map (·.1))
      simp only [Ytaacolkdlmfifaa.Rows.uptoBulk, List.length_map] at *
      omega
  simp only [Ytaacolkdlmfifaa.Rows.uptoBulk]
  omega
end Go.Proofs
