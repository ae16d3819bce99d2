/-
  DERIVED. GIVEN WITH THE SEED: THE CARDS: each row of YtbmopcmhokpchaaGreatDoorRows.lean that lists a variable, with what it lists TIED to the program's text (the seventh form; the later family's looks); each row that meets fmt, with fmt's text TOLD by the authors' own Lean function (tested against real Go, not proved from fmt's source: count such statements apart). THE CARD IS WHAT COUNTS. Prove the row's statement (the work); the ties are given (YtbmopcmhokpchaaGreatDoorTie.lean); close each card by the builder's one call (the guide's Derived/Test/ToyasCard.lean, 'card_holds'). Laid BY PROGRAM, IN A SANDBOX (cutbox-door.mjs). By AI agents, Wed Nov 11 2026. No macro, syntax, notation, axiom, sorry.
-/
import Derived.Test.YtbmopcmhokpchaaGreatDoorRows
import GoSem.ClaimSeven
namespace Go.Proofs.YtbmopcmhokpchaaGreatDoor
namespace Rows

/-- THE TIED CARD OF 'assayerlaw20.LogFrames'. -/
def logFramesCard : Claim7 := { stood := { row := logFramesRow, standIns := [], harness := (true, "623bd0c62e5342627d0119c887ae4a001bfaccf6a863b0f18ed34020838fedc2"), looks := false }, kinds := [], alts := [], laidByText := true, laidKinds := [.data, .data, .data], laidTests := true, laidLooks := .later }
def LogFramesCardSaid : Prop := Claim7.holds Tryz.pinned (.plain (OpenSpec.ofChange logFramesSpec)) logFramesCard

/-- THE TIED CARD OF 'assayerlaw20.LogOpens'. -/
def logOpensCard : Claim7 := { stood := { row := logOpensRow, standIns := [], harness := (true, "623bd0c62e5342627d0119c887ae4a001bfaccf6a863b0f18ed34020838fedc2"), looks := false }, kinds := [], alts := [], laidByText := true, laidKinds := [.data, .data, .data], laidTests := true, laidLooks := .later }
def LogOpensCardSaid : Prop := Claim7.holds Tryz.pinned (.plain (OpenSpec.ofChange logOpensSpec)) logOpensCard

/-- THE TIED CARD OF 'assayerlaw19.DiskPlays'. -/
def diskPlaysCard : Claim7 := { stood := { row := diskPlaysRow, standIns := [], harness := (true, "623bd0c62e5342627d0119c887ae4a001bfaccf6a863b0f18ed34020838fedc2"), looks := false }, kinds := [], alts := [], laidByText := true, laidKinds := [.data, .data, .data], laidTests := true, laidLooks := .later }
def DiskPlaysCardSaid : Prop := Claim7.holds Tryz.pinned (.plain (OpenSpec.ofChange diskPlaysSpec)) diskPlaysCard

/-- THE SECOND FORM's CARD OF 'assayerlaw20.LogFrames'. -/
def logFramesUptoCard : Claim7 := { stood := { row := logFramesUptoRow, standIns := [], harness := (true, "623bd0c62e5342627d0119c887ae4a001bfaccf6a863b0f18ed34020838fedc2"), looks := false }, kinds := [], alts := [], laidByText := true, laidKinds := [.data, .data, .data], laidTests := true, laidLooks := .later }
def LogFramesUptoCardSaid : Prop := Claim7.holds Tryz.pinned (.plain (OpenSpec.upto logFramesSpec)) logFramesUptoCard

/-- THE SECOND FORM's CARD OF 'assayerlaw20.LogOpens'. -/
def logOpensUptoCard : Claim7 := { stood := { row := logOpensUptoRow, standIns := [], harness := (true, "623bd0c62e5342627d0119c887ae4a001bfaccf6a863b0f18ed34020838fedc2"), looks := false }, kinds := [], alts := [], laidByText := true, laidKinds := [.data, .data, .data], laidTests := true, laidLooks := .later }
def LogOpensUptoCardSaid : Prop := Claim7.holds Tryz.pinned (.plain (OpenSpec.upto logOpensSpec)) logOpensUptoCard

/-- THE SECOND FORM's CARD OF 'assayerlaw19.DiskPlays'. -/
def diskPlaysUptoCard : Claim7 := { stood := { row := diskPlaysUptoRow, standIns := [], harness := (true, "623bd0c62e5342627d0119c887ae4a001bfaccf6a863b0f18ed34020838fedc2"), looks := false }, kinds := [], alts := [], laidByText := true, laidKinds := [.data, .data, .data], laidTests := true, laidLooks := .later }
def DiskPlaysUptoCardSaid : Prop := Claim7.holds Tryz.pinned (.plain (OpenSpec.upto diskPlaysSpec)) diskPlaysUptoCard
end Rows
end Go.Proofs.YtbmopcmhokpchaaGreatDoor
