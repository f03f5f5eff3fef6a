/- A library's table that the row lists: it stands under every assertion over the old world. -/
import Derived.Test.YtloaknocdnpedaaGreatDoorEngOpen
import Derived.Test.YtloaknocdnpedaaGreatDoorLib
import Derived.MakeChecks
import Derived.LaidMore
set_option linter.all false
namespace Go.Eng
open Go
theorem tab_old {P : Program} {W : World} {name : String} {k : IntKind} {zs : List Int} {g : Nat} (hg : P.globalNamed name = some g) (h : Lib.TabIs P W name k zs) (w : World) (s : Sat w [old W]) : Lib.TabIs P w name k zs := by
  unfold Lib.TabIs at h ⊢
  simp only [World.var?, hg, Option.bind_some] at h ⊢
  split at h
  · rename_i cs t fr hb
    have := s.old 0 rfl hb
    rw [this]
    exact h
  · cases h
/-- a table anywhere on the list -/
theorem tab_at {P : Program} {W : World} {name : String} {k : IntKind} {zs : List Int} {g : Nat} {t e : TypeId} {n : Nat}
    (hg : P.globalNamed name = some g) (hty : (P.globals[g]?).map (·.type) = some t) (ht : P.underlying t = some (.array n e)) (he : P.underlying e = some (.int k)) (hce : P.cellsOf e = 1) (hct : P.cellsOf t = n) :
    ∀ {laid : List (String × DataW Unit)} {ps : List MemPlace}, DataW.LaidVars P W laid ps → (name, Lib.tabData k zs) ∈ laid → Lib.TabIs P W name k zs := by
  intro laid
  induction laid with
  | nil => intro ps _ h; cases h
  | cons x laid ih =>
    intro ps h hm
    obtain ⟨g', t', cs, fuel, p, q, hg', ht', hvar, hd, hr, _⟩ := h
    rcases List.mem_cons.1 hm with h | h
    · subst h
      obtain rfl := Option.some.inj (hg.symm.trans hg')
      obtain rfl := Option.some.inj (hty.symm.trans ht')
      unfold Lib.TabIs
      rw [hvar, ← Lib.cells_of_tab ht he hce hct hd]
    · exact ih hr h
end Go.Eng
namespace Go.Proofs
open Go.Eng
theorem Tryz.gk_of {W : World} {ps : List MemPlace} {laid : List (String × DataW Unit)} (h : DataW.LaidVars Tryz.prog W laid ps) (hm : ("internal/strconv.uint64pow10", Lib.tabData .u64 Lib.pow10Tab) ∈ laid) : Tryz.Gk [old W] := fun w s =>
  tab_old (g := (Tryz.prog.globalNamed "internal/strconv.uint64pow10").getD 0) (by kernel_rfl) (tab_at (g := (Tryz.prog.globalNamed "internal/strconv.uint64pow10").getD 0) (t := 137) (e := 123) (n := 20) (by kernel_rfl) (by kernel_rfl) (by kernel_rfl) (by kernel_rfl) (by kernel_rfl) (by kernel_rfl) h hm) w s
end Go.Proofs
