/-
  DERIVED. GIVEN WITH THE SEED: THE CARDS: each row of YtkecobhmglcnfaaDoorRows.lean that lists a variable, with what it lists TIED to the program's text (the seventh form; the later family's looks); each row that meets fmt, with fmt's text TOLD by the authors' own Lean function (tested against real Go, not proved from fmt's source: count such statements apart). THE CARD IS WHAT COUNTS. Prove the row's statement (the work); the ties are given (YtkecobhmglcnfaaDoorTie.lean); close each card by the builder's one call (the guide's Derived/Test/ToyasCard.lean, 'card_holds'). Laid BY PROGRAM, IN A SANDBOX (cutbox-door.mjs). By AI agents, Wed Nov 11 2026. No macro, syntax, notation, axiom, sorry.
-/
import Derived.Test.YtkecobhmglcnfaaDoorRows
import GoSem.ClaimSeven
namespace Go.Proofs.YtkecobhmglcnfaaDoor
namespace Rows

/-- THE TIED CARD OF 'campanilelaw33.TracePicks'. -/
def tracePicksCard : Claim7 := { stood := { row := tracePicksRow, standIns := [], harness := (true, "b527de0991a93a2d3705eb7695abbcca2bf5af8a69610262d13feed52b91146f"), looks := false }, kinds := [], alts := [], laidByText := true, laidKinds := [.data, .data, .data], laidTests := true, laidLooks := .later }
def TracePicksCardSaid : Prop := Claim7.holds Tryd.pinned (.plain (OpenSpec.ofChange tracePicksSpec)) tracePicksCard

/-- THE TIED CARD OF 'campanilelaw33.TracePrints'. -/
def tracePrintsCard : Claim7 := { stood := { row := tracePrintsRow, standIns := [], harness := (true, "b527de0991a93a2d3705eb7695abbcca2bf5af8a69610262d13feed52b91146f"), looks := false }, kinds := [], alts := [], laidByText := true, laidKinds := [.data, .data, .data, .data, .pinned], laidTests := true, laidLooks := .later }
def TracePrintsCardSaid : Prop := Claim7.holds Tryd.pinned (.plain (OpenSpec.ofChange tracePrintsSpec)) tracePrintsCard

/-- THE TIED CARD OF 'campanilelaw33.TraceParses'. -/
def traceParsesCard : Claim7 := { stood := { row := traceParsesRow, standIns := [], harness := (true, "b527de0991a93a2d3705eb7695abbcca2bf5af8a69610262d13feed52b91146f"), looks := false }, kinds := [], alts := [], laidByText := true, laidKinds := [.data, .data, .data, .data, .pinned], laidTests := true, laidLooks := .later }
def TraceParsesCardSaid : Prop := Claim7.holds Tryd.pinned (.plain (OpenSpec.ofChange traceParsesSpec)) traceParsesCard

/-- THE TIED CARD OF 'campanilelaw33.TraceMost'. -/
def traceMostCard : Claim7 := { stood := { row := traceMostRow, standIns := [], harness := (true, "b527de0991a93a2d3705eb7695abbcca2bf5af8a69610262d13feed52b91146f"), looks := false }, kinds := [], alts := [], laidByText := true, laidKinds := [.data, .data, .data, .data, .pinned], laidTests := true, laidLooks := .later }
def TraceMostCardSaid : Prop := Claim7.holds Tryd.pinned (.plain (OpenSpec.ofChange traceMostSpec)) traceMostCard

/-- THE SECOND FORM's CARD OF 'campanilelaw33.TracePicks'. -/
def tracePicksUptoCard : Claim7 := { stood := { row := tracePicksUptoRow, standIns := [], harness := (true, "b527de0991a93a2d3705eb7695abbcca2bf5af8a69610262d13feed52b91146f"), looks := false }, kinds := [], alts := [], laidByText := true, laidKinds := [.data, .data, .data], laidTests := true, laidLooks := .later }
def TracePicksUptoCardSaid : Prop := Claim7.holds Tryd.pinned (.plain (OpenSpec.upto tracePicksSpec)) tracePicksUptoCard

/-- THE SECOND FORM's CARD OF 'campanilelaw33.TracePrints'. -/
def tracePrintsUptoCard : Claim7 := { stood := { row := tracePrintsUptoRow, standIns := [], harness := (true, "b527de0991a93a2d3705eb7695abbcca2bf5af8a69610262d13feed52b91146f"), looks := false }, kinds := [], alts := [], laidByText := true, laidKinds := [.data, .data, .data, .data, .pinned], laidTests := true, laidLooks := .later }
def TracePrintsUptoCardSaid : Prop := Claim7.holds Tryd.pinned (.plain (OpenSpec.upto tracePrintsSpec)) tracePrintsUptoCard

/-- THE SECOND FORM's CARD OF 'campanilelaw33.TraceParses'. -/
def traceParsesUptoCard : Claim7 := { stood := { row := traceParsesUptoRow, standIns := [], harness := (true, "b527de0991a93a2d3705eb7695abbcca2bf5af8a69610262d13feed52b91146f"), looks := false }, kinds := [], alts := [], laidByText := true, laidKinds := [.data, .data, .data, .data, .pinned], laidTests := true, laidLooks := .later }
def TraceParsesUptoCardSaid : Prop := Claim7.holds Tryd.pinned (.plain (OpenSpec.upto traceParsesSpec)) traceParsesUptoCard

/-- THE SECOND FORM's CARD OF 'campanilelaw33.TraceMost'. -/
def traceMostUptoCard : Claim7 := { stood := { row := traceMostUptoRow, standIns := [], harness := (true, "b527de0991a93a2d3705eb7695abbcca2bf5af8a69610262d13feed52b91146f"), looks := false }, kinds := [], alts := [], laidByText := true, laidKinds := [.data, .data, .data, .data, .pinned], laidTests := true, laidLooks := .later }
def TraceMostUptoCardSaid : Prop := Claim7.holds Tryd.pinned (.plain (OpenSpec.upto traceMostSpec)) traceMostUptoCard
end Rows
end Go.Proofs.YtkecobhmglcnfaaDoor
