/-
  DERIVED. GIVEN WITH THE SEED: THE CARDS: each row of YtbmopcmhokpchaaDoorRows.lean that lists a variable, with what it lists TIED to the program's text (the seventh form; the later family's looks); each row that meets fmt, with fmt's text TOLD by the authors' own Lean function (tested against real Go, not proved from fmt's source: count such statements apart). THE CARD IS WHAT COUNTS. Prove the row's statement (the work); the ties are given (YtbmopcmhokpchaaDoorTie.lean); close each card by the builder's one call (the guide's Derived/Test/ToyasCard.lean, 'card_holds'). Laid BY PROGRAM, IN A SANDBOX (cutbox-door.mjs). By AI agents, Wed Nov 11 2026. No macro, syntax, notation, axiom, sorry.
-/
import Derived.Test.YtbmopcmhokpchaaDoorRows
import GoSem.ClaimSeven
namespace Go.Proofs.YtbmopcmhokpchaaDoor
namespace Rows

/-- THE TIED CARD OF 'assayerlaw11.SealsMade'. -/
def sealsMadeCard : Claim7 := { stood := { row := sealsMadeRow, standIns := [], harness := (true, "ac4ce2871cb0301f2b3bd0c7c7e983ec05f31c4468319c8a7c07b06ee009235f"), looks := false }, kinds := [], alts := [], laidByText := true, laidKinds := [.data, .data, .data], laidTests := true, laidLooks := .later }
def SealsMadeCardSaid : Prop := Claim7.holds Tryd.pinned (.plain (OpenSpec.ofChange sealsMadeSpec)) sealsMadeCard

/-- THE TIED CARD OF 'assayerlaw11.SealsRight'. -/
def sealsRightCard : Claim7 := { stood := { row := sealsRightRow, standIns := [], harness := (true, "ac4ce2871cb0301f2b3bd0c7c7e983ec05f31c4468319c8a7c07b06ee009235f"), looks := false }, kinds := [], alts := [], laidByText := true, laidKinds := [.data, .data, .data], laidTests := true, laidLooks := .later }
def SealsRightCardSaid : Prop := Claim7.holds Tryd.pinned (.plain (OpenSpec.ofChange sealsRightSpec)) sealsRightCard

/-- THE TIED CARD OF 'assayerlaw11.SealsSums'. -/
def sealsSumsCard : Claim7 := { stood := { row := sealsSumsRow, standIns := [], harness := (true, "ac4ce2871cb0301f2b3bd0c7c7e983ec05f31c4468319c8a7c07b06ee009235f"), looks := false }, kinds := [], alts := [], laidByText := true, laidKinds := [.data, .data, .data], laidTests := true, laidLooks := .later }
def SealsSumsCardSaid : Prop := Claim7.holds Tryd.pinned (.plain (OpenSpec.ofChange sealsSumsSpec)) sealsSumsCard

/-- THE SECOND FORM's CARD OF 'assayerlaw11.SealsMade'. -/
def sealsMadeUptoCard : Claim7 := { stood := { row := sealsMadeUptoRow, standIns := [], harness := (true, "ac4ce2871cb0301f2b3bd0c7c7e983ec05f31c4468319c8a7c07b06ee009235f"), looks := false }, kinds := [], alts := [], laidByText := true, laidKinds := [.data, .data, .data], laidTests := true, laidLooks := .later }
def SealsMadeUptoCardSaid : Prop := Claim7.holds Tryd.pinned (.plain (OpenSpec.upto sealsMadeSpec)) sealsMadeUptoCard

/-- THE SECOND FORM's CARD OF 'assayerlaw11.SealsRight'. -/
def sealsRightUptoCard : Claim7 := { stood := { row := sealsRightUptoRow, standIns := [], harness := (true, "ac4ce2871cb0301f2b3bd0c7c7e983ec05f31c4468319c8a7c07b06ee009235f"), looks := false }, kinds := [], alts := [], laidByText := true, laidKinds := [.data, .data, .data], laidTests := true, laidLooks := .later }
def SealsRightUptoCardSaid : Prop := Claim7.holds Tryd.pinned (.plain (OpenSpec.upto sealsRightSpec)) sealsRightUptoCard

/-- THE SECOND FORM's CARD OF 'assayerlaw11.SealsSums'. -/
def sealsSumsUptoCard : Claim7 := { stood := { row := sealsSumsUptoRow, standIns := [], harness := (true, "ac4ce2871cb0301f2b3bd0c7c7e983ec05f31c4468319c8a7c07b06ee009235f"), looks := false }, kinds := [], alts := [], laidByText := true, laidKinds := [.data, .data, .data], laidTests := true, laidLooks := .later }
def SealsSumsUptoCardSaid : Prop := Claim7.holds Tryd.pinned (.plain (OpenSpec.upto sealsSumsSpec)) sealsSumsUptoCard
end Rows
end Go.Proofs.YtbmopcmhokpchaaDoor
