/-
  DERIVED. GIVEN WITH THE SEED: THE CARDS: each row of YtloaknocdnpedaaDoorRows.lean that lists a variable, with what it lists TIED to the program's text (the seventh form; the later family's looks); each row that meets fmt, with fmt's text TOLD by the authors' own Lean function (tested against real Go, not proved from fmt's source: count such statements apart). THE CARD IS WHAT COUNTS. Prove the row's statement (the work); the ties are given (YtloaknocdnpedaaDoorTie.lean); close each card by the builder's one call (the guide's Derived/Test/ToyasCard.lean, 'card_holds'). Laid BY PROGRAM, IN A SANDBOX (cutbox-door.mjs). By AI agents, Wed Nov 11 2026. No macro, syntax, notation, axiom, sorry.
-/
import Derived.Test.YtloaknocdnpedaaDoorRows
import GoSem.ClaimSeven
namespace Go.Proofs.YtloaknocdnpedaaDoor
namespace Rows

/-- THE TIED CARD OF 'campanilelaw40.DisCuts'. -/
def disCutsCard : Claim7 := { stood := { row := disCutsRow, standIns := [], harness := (true, "65d61d4d1522559313a6ef311fc8c71664cff70538bca54ff698f999c864798d"), looks := true }, kinds := [], alts := [], laidByText := true, laidKinds := [.data, .data, .data], laidTests := true, laidLooks := .later }
def DisCutsCardSaid : Prop := Claim7.holds Tryd.pinned (.plain (OpenSpec.ofChange disCutsSpec)) disCutsCard

/-- THE TIED CARD OF 'campanilelaw40.DisNames'. -/
def disNamesCard : Claim7 := { stood := { row := disNamesRow, standIns := [], harness := (true, "65d61d4d1522559313a6ef311fc8c71664cff70538bca54ff698f999c864798d"), looks := true }, kinds := [], alts := [], laidByText := true, laidKinds := [.data, .data, .data], laidTests := true, laidLooks := .later }
def DisNamesCardSaid : Prop := Claim7.holds Tryd.pinned (.plain (OpenSpec.ofChange disNamesSpec)) disNamesCard

/-- THE TIED CARD OF 'campanilelaw40.DisBack'. -/
def disBackCard : Claim7 := { stood := { row := disBackRow, standIns := [], harness := (true, "65d61d4d1522559313a6ef311fc8c71664cff70538bca54ff698f999c864798d"), looks := true }, kinds := [], alts := [], laidByText := true, laidKinds := [.data, .data, .data, .data, .pinned], laidTests := true, laidLooks := .later }
def DisBackCardSaid : Prop := Claim7.holds Tryd.pinned (.plain (OpenSpec.ofChange disBackSpec)) disBackCard

/-- THE SECOND FORM's CARD OF 'campanilelaw40.DisCuts'. -/
def disCutsUptoCard : Claim7 := { stood := { row := disCutsUptoRow, standIns := [], harness := (true, "65d61d4d1522559313a6ef311fc8c71664cff70538bca54ff698f999c864798d"), looks := true }, kinds := [], alts := [], laidByText := true, laidKinds := [.data, .data, .data], laidTests := true, laidLooks := .later }
def DisCutsUptoCardSaid : Prop := Claim7.holds Tryd.pinned (.plain (OpenSpec.upto disCutsSpec)) disCutsUptoCard

/-- THE SECOND FORM's CARD OF 'campanilelaw40.DisNames'. -/
def disNamesUptoCard : Claim7 := { stood := { row := disNamesUptoRow, standIns := [], harness := (true, "65d61d4d1522559313a6ef311fc8c71664cff70538bca54ff698f999c864798d"), looks := true }, kinds := [], alts := [], laidByText := true, laidKinds := [.data, .data, .data], laidTests := true, laidLooks := .later }
def DisNamesUptoCardSaid : Prop := Claim7.holds Tryd.pinned (.plain (OpenSpec.upto disNamesSpec)) disNamesUptoCard

/-- THE SECOND FORM's CARD OF 'campanilelaw40.DisBack'. -/
def disBackUptoCard : Claim7 := { stood := { row := disBackUptoRow, standIns := [], harness := (true, "65d61d4d1522559313a6ef311fc8c71664cff70538bca54ff698f999c864798d"), looks := true }, kinds := [], alts := [], laidByText := true, laidKinds := [.data, .data, .data, .data, .pinned], laidTests := true, laidLooks := .later }
def DisBackUptoCardSaid : Prop := Claim7.holds Tryd.pinned (.plain (OpenSpec.upto disBackSpec)) disBackUptoCard
end Rows
end Go.Proofs.YtloaknocdnpedaaDoor
