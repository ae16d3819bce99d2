/-
  DERIVED. GIVEN WITH THE SEED: THE CARDS: each row of YtjjppbfknjeddaaGreatDoorRows.lean that lists a variable, with what it lists TIED to the program's text (the seventh form; the later family's looks); each row that meets fmt, with fmt's text TOLD by the authors' own Lean function (tested against real Go, not proved from fmt's source: count such statements apart). THE CARD IS WHAT COUNTS. Prove the row's statement (the work); the ties are given (YtjjppbfknjeddaaGreatDoorTie.lean); close each card by the builder's one call (the guide's Derived/Test/ToyasCard.lean, 'card_holds'). Laid BY PROGRAM, IN A SANDBOX (cutbox-door.mjs). By AI agents, Wed Nov 11 2026. No macro, syntax, notation, axiom, sorry.
-/
import Derived.Test.YtjjppbfknjeddaaGreatDoorRows
import GoSem.ClaimSeven
namespace Go.Proofs.YtjjppbfknjeddaaGreatDoor
namespace Rows

/-- THE TIED CARD OF 'assayerlaw12.LinesPuts'. -/
def linesPutsCard : Claim7 := { stood := { row := linesPutsRow, standIns := [], harness := (true, "0007a72c73fa2436d430d59f9bceb2935219b6a027168ac820c0e29a94071aa7"), looks := false }, kinds := [], alts := [], laidByText := true, laidKinds := [.data, .data, .data], laidTests := true, laidLooks := .later }
def LinesPutsCardSaid : Prop := Claim7.holds Tryz.pinned (.plain (OpenSpec.ofChange linesPutsSpec)) linesPutsCard

/-- THE SECOND FORM's CARD OF 'assayerlaw12.LinesPuts'. -/
def linesPutsUptoCard : Claim7 := { stood := { row := linesPutsUptoRow, standIns := [], harness := (true, "0007a72c73fa2436d430d59f9bceb2935219b6a027168ac820c0e29a94071aa7"), looks := false }, kinds := [], alts := [], laidByText := true, laidKinds := [.data, .data, .data], laidTests := true, laidLooks := .later }
def LinesPutsUptoCardSaid : Prop := Claim7.holds Tryz.pinned (.plain (OpenSpec.upto linesPutsSpec)) linesPutsUptoCard
end Rows
end Go.Proofs.YtjjppbfknjeddaaGreatDoor
