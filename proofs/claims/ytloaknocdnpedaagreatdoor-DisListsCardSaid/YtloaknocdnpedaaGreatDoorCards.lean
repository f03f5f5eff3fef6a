/-
  DERIVED. GIVEN WITH THE SEED: THE CARDS: each row of YtloaknocdnpedaaGreatDoorRows.lean that lists a variable, with what it lists TIED to the program's text (the seventh form; the later family's looks); each row that meets fmt, with fmt's text TOLD by the authors' own Lean function (tested against real Go, not proved from fmt's source: count such statements apart). THE CARD IS WHAT COUNTS. Prove the row's statement (the work); the ties are given (YtloaknocdnpedaaGreatDoorTie.lean); close each card by the builder's one call (the guide's Derived/Test/ToyasCard.lean, 'card_holds'). Laid BY PROGRAM, IN A SANDBOX (cutbox-door.mjs). By AI agents, Wed Nov 11 2026. No macro, syntax, notation, axiom, sorry.
-/
import Derived.Test.YtloaknocdnpedaaGreatDoorRows
import GoSem.ClaimSeven
namespace Go.Proofs.YtloaknocdnpedaaGreatDoor
namespace Rows

/-- THE TIED CARD OF 'campanilelaw40.DisLists'. -/
def disListsCard : Claim7 := { stood := { row := disListsRow, standIns := [], harness := (true, "7ad75487991fc5186a701a444dcf2e4b21595c341c0e244d64d8a59cdadc73b9"), looks := false }, kinds := [], alts := [], laidByText := true, laidKinds := [.data, .data, .data], laidTests := true, laidLooks := .later }
def DisListsCardSaid : Prop := Claim7.holds Tryz.pinned (.plain (OpenSpec.ofChange disListsSpec)) disListsCard

/-- THE SECOND FORM's CARD OF 'campanilelaw40.DisLists'. -/
def disListsUptoCard : Claim7 := { stood := { row := disListsUptoRow, standIns := [], harness := (true, "7ad75487991fc5186a701a444dcf2e4b21595c341c0e244d64d8a59cdadc73b9"), looks := false }, kinds := [], alts := [], laidByText := true, laidKinds := [.data, .data, .data], laidTests := true, laidLooks := .later }
def DisListsUptoCardSaid : Prop := Claim7.holds Tryz.pinned (.plain (OpenSpec.upto disListsSpec)) disListsUptoCard
end Rows
end Go.Proofs.YtloaknocdnpedaaGreatDoor
