/-
  No cell of these rows narrows 'for every input' (looked for: loops, veiled, ifaces, maps, wideKeys, modest, calm, conditions, laid).
  DERIVED. THE GIVEN ROWS OF THIS SEAT. 6 by the template 'for every input the law returns true; each argument reads behind the call as it read before'; 0 by the template 'total and deterministic' (their statements: YtjjppbfknjeddaaTotals.lean).
  GIVEN WITH THE SEED: the statements are not yours to turn. If you find one false, say at which input.
  Laid BY PROGRAM, IN A SANDBOX (cutbox-rows.mjs): the forced cells as the released guide's own fill.sh prints them over the translation 51914a7062b0c1ce… (all of the seat's roots in one cut). By AI agents, Wed Nov 11 2026. No macro, syntax, notation, axiom, sorry.
-/
import Derived.Test.YtjjppbfknjeddaaChecked
import GoSem.Claim
import GoSem.ClaimJoined
import GoSem.ClaimMapViews
import Derived.JoinedTies
import Derived.KernelRfl
namespace Go.Proofs.Ytjjppbfknjeddaa
/- THE CELL 'sum', in the pinned program and in every row, IS THE sha256 OF THE DUMP (.gsa) THAT YtjjppbfknjeddaaProg.lean LOADS. Nothing in Lean hashes anything: it is a label: what it is worth is what the hold of that sum in a sandbox is worth. -/
noncomputable def Try.pinned : Pinned := { name := "ytjjppbfknjeddaa", sum := "51914a7062b0c1ce77166e46f29bee9c26fabaa3fcb8cefb6ce2859a221f6660", checked := Try.checked }
namespace Rows
def none {H : Type} : Left H := { results := [], args := [] }

/-- 'assayerlaw12.LinesPieces': WHATEVER THE INPUT: true; the input reads as it did. -/
def linesPiecesSpec : ChangeSpec := { name := "linesPieces", fn := fun _ => fun
  | [d1, d2] => { results := [.lit (.bool true)], args := [d1, d2] }
  | _ => none }
def linesPiecesRow : OpenClaim := { program := "ytjjppbfknjeddaa", sum := "51914a7062b0c1ce77166e46f29bee9c26fabaa3fcb8cefb6ce2859a221f6660", func := "assayer/assayerlaw12.LinesPieces", spec := "linesPieces", inPlace := ["internal/bytealg.IndexByte"], unfollowed := true, recurses := true, apart := false }
def LinesPiecesSaid : Prop := linesPiecesRow.holds Try.pinned (OpenSpec.ofChange linesPiecesSpec)

/-- ITS FALSE NEIGHBOUR: 'it returns false'. Refute it at one input. -/
def linesPiecesWrong : ChangeSpec := { name := "linesPieces", fn := fun _ => fun
  | [d1, d2] => { results := [.lit (.bool false)], args := [d1, d2] }
  | _ => none }
def LinesPiecesWrongFalsely : Prop := linesPiecesRow.holds Try.pinned (OpenSpec.ofChange linesPiecesWrong)

/-- 'assayerlaw12.LinesMany': WHATEVER THE INPUT: true; the input reads as it did. -/
def linesManySpec : ChangeSpec := { name := "linesMany", fn := fun _ => fun
  | [d] => { results := [.lit (.bool true)], args := [d] }
  | _ => none }
def linesManyRow : OpenClaim := { program := "ytjjppbfknjeddaa", sum := "51914a7062b0c1ce77166e46f29bee9c26fabaa3fcb8cefb6ce2859a221f6660", func := "assayer/assayerlaw12.LinesMany", spec := "linesMany", inPlace := ["internal/bytealg.IndexByte"], unfollowed := true, recurses := true, apart := false }
def LinesManySaid : Prop := linesManyRow.holds Try.pinned (OpenSpec.ofChange linesManySpec)

/-- ITS FALSE NEIGHBOUR: 'it returns false'. Refute it at one input. -/
def linesManyWrong : ChangeSpec := { name := "linesMany", fn := fun _ => fun
  | [d] => { results := [.lit (.bool false)], args := [d] }
  | _ => none }
def LinesManyWrongFalsely : Prop := linesManyRow.holds Try.pinned (OpenSpec.ofChange linesManyWrong)

/-- 'assayerlaw12.LinesEnds': WHATEVER THE INPUT: true; the input reads as it did. -/
def linesEndsSpec : ChangeSpec := { name := "linesEnds", fn := fun _ => fun
  | [d1, d2] => { results := [.lit (.bool true)], args := [d1, d2] }
  | _ => none }
def linesEndsRow : OpenClaim := { program := "ytjjppbfknjeddaa", sum := "51914a7062b0c1ce77166e46f29bee9c26fabaa3fcb8cefb6ce2859a221f6660", func := "assayer/assayerlaw12.LinesEnds", spec := "linesEnds", inPlace := ["internal/bytealg.IndexByte"], unfollowed := true, recurses := true, apart := false }
def LinesEndsSaid : Prop := linesEndsRow.holds Try.pinned (OpenSpec.ofChange linesEndsSpec)

/-- ITS FALSE NEIGHBOUR: 'it returns false'. Refute it at one input. -/
def linesEndsWrong : ChangeSpec := { name := "linesEnds", fn := fun _ => fun
  | [d1, d2] => { results := [.lit (.bool false)], args := [d1, d2] }
  | _ => none }
def LinesEndsWrongFalsely : Prop := linesEndsRow.holds Try.pinned (OpenSpec.ofChange linesEndsWrong)

/-- 'assayerlaw12.LinesLong': WHATEVER THE INPUT: true; the input reads as it did. -/
def linesLongSpec : ChangeSpec := { name := "linesLong", fn := fun _ => fun
  | [d1, d2] => { results := [.lit (.bool true)], args := [d1, d2] }
  | _ => none }
def linesLongRow : OpenClaim := { program := "ytjjppbfknjeddaa", sum := "51914a7062b0c1ce77166e46f29bee9c26fabaa3fcb8cefb6ce2859a221f6660", func := "assayer/assayerlaw12.LinesLong", spec := "linesLong", inPlace := ["internal/bytealg.IndexByte"], unfollowed := true, recurses := true, apart := false }
def LinesLongSaid : Prop := linesLongRow.holds Try.pinned (OpenSpec.ofChange linesLongSpec)

/-- ITS FALSE NEIGHBOUR: 'it returns false'. Refute it at one input. -/
def linesLongWrong : ChangeSpec := { name := "linesLong", fn := fun _ => fun
  | [d1, d2] => { results := [.lit (.bool false)], args := [d1, d2] }
  | _ => none }
def LinesLongWrongFalsely : Prop := linesLongRow.holds Try.pinned (OpenSpec.ofChange linesLongWrong)

/-- 'assayerlaw12.LinesJoins': WHATEVER THE INPUT: true; the input reads as it did. -/
def linesJoinsSpec : ChangeSpec := { name := "linesJoins", fn := fun _ => fun
  | [d1, d2, d3] => { results := [.lit (.bool true)], args := [d1, d2, d3] }
  | _ => none }
def linesJoinsRow : OpenClaim := { program := "ytjjppbfknjeddaa", sum := "51914a7062b0c1ce77166e46f29bee9c26fabaa3fcb8cefb6ce2859a221f6660", func := "assayer/assayerlaw12.LinesJoins", spec := "linesJoins", inPlace := ["internal/bytealg.IndexByte"], unfollowed := true, recurses := true, apart := false }
def LinesJoinsSaid : Prop := linesJoinsRow.holds Try.pinned (OpenSpec.ofChange linesJoinsSpec)

/-- ITS FALSE NEIGHBOUR: 'it returns false'. Refute it at one input. -/
def linesJoinsWrong : ChangeSpec := { name := "linesJoins", fn := fun _ => fun
  | [d1, d2, d3] => { results := [.lit (.bool false)], args := [d1, d2, d3] }
  | _ => none }
def LinesJoinsWrongFalsely : Prop := linesJoinsRow.holds Try.pinned (OpenSpec.ofChange linesJoinsWrong)

/-- 'assayerlaw12.LinesBad': WHATEVER THE INPUT: true; the input reads as it did. -/
def linesBadSpec : ChangeSpec := { name := "linesBad", fn := fun _ => fun
  | [d1, d2, d3] => { results := [.lit (.bool true)], args := [d1, d2, d3] }
  | _ => none }
def linesBadRow : OpenClaim := { program := "ytjjppbfknjeddaa", sum := "51914a7062b0c1ce77166e46f29bee9c26fabaa3fcb8cefb6ce2859a221f6660", func := "assayer/assayerlaw12.LinesBad", spec := "linesBad", inPlace := ["internal/bytealg.IndexByte"], unfollowed := true, recurses := true, apart := false }
def LinesBadSaid : Prop := linesBadRow.holds Try.pinned (OpenSpec.ofChange linesBadSpec)

/-- ITS FALSE NEIGHBOUR: 'it returns false'. Refute it at one input. -/
def linesBadWrong : ChangeSpec := { name := "linesBad", fn := fun _ => fun
  | [d1, d2, d3] => { results := [.lit (.bool false)], args := [d1, d2, d3] }
  | _ => none }
def LinesBadWrongFalsely : Prop := linesBadRow.holds Try.pinned (OpenSpec.ofChange linesBadWrong)

/- THE SECOND FORM. 'bulk': how many values and letters a reading holds, each counted each time it is reached (what is shared counts as often as it is met; a slice's spare places count too). A statement '..UptoSaid' is the law's where the arguments, and the package variables that the reading takes, are together of bulk at most 1048576: NARROWER than '..Said'. Prove '..Said' where nothing that the law and all that it calls make is longer than what came in: it says more and counts as full. Else prove '..UptoSaid'. A law counts once. -/
mutual
def uptoBulk {H : Type} : DataW H → Nat
  | .lit (.string bytes) => bytes.length + 1
  | .lit _ => 1
  | .nil => 1
  | .ptr d => uptoBulk d + 1
  | .slice elems spare => uptoBulkAll elems + uptoBulkAll spare + 1
  | .agg parts => uptoBulkAll parts + 1
  | .iface _ d => uptoBulk d + 1
  | .map entries => uptoBulkEntries entries + 1
  | .held _ => 1
def uptoBulkAll {H : Type} : List (DataW H) → Nat
  | [] => 0
  | d :: r => uptoBulk d + uptoBulkAll r
def uptoBulkEntries {H : Type} : List (Lit × DataW H) → Nat
  | [] => 0
  | x :: r => uptoBulkEntry x + uptoBulkEntries r
def uptoBulkEntry {H : Type} : Lit × DataW H → Nat
  | (.string bytes, d) => bytes.length + uptoBulk d + 1
  | (_, d) => uptoBulk d + 1
 end
def uptoSmall : (H : Type) → List (DataW H) → Bool := fun _ ds => decide (uptoBulkAll ds ≤ 1048576)
def OpenSpec.upto (s : _root_.Go.ChangeSpec) : _root_.Go.OpenSpec := { _root_.Go.OpenSpec.ofChange s with cond := some uptoSmall }

/-- 'assayerlaw12.LinesPieces', WHERE WHAT IT READS IS OF BULK AT MOST 1048576: true; the input reads as it did. -/
def linesPiecesUptoRow : OpenClaim := { program := "ytjjppbfknjeddaa", sum := "51914a7062b0c1ce77166e46f29bee9c26fabaa3fcb8cefb6ce2859a221f6660", func := "assayer/assayerlaw12.LinesPieces", spec := "linesPieces", inPlace := ["internal/bytealg.IndexByte"], unfollowed := true, recurses := true, apart := false, narrowed := true }
def LinesPiecesUptoSaid : Prop := linesPiecesUptoRow.holds Try.pinned (OpenSpec.upto linesPiecesSpec)

/-- 'assayerlaw12.LinesMany', WHERE WHAT IT READS IS OF BULK AT MOST 1048576: true; the input reads as it did. -/
def linesManyUptoRow : OpenClaim := { program := "ytjjppbfknjeddaa", sum := "51914a7062b0c1ce77166e46f29bee9c26fabaa3fcb8cefb6ce2859a221f6660", func := "assayer/assayerlaw12.LinesMany", spec := "linesMany", inPlace := ["internal/bytealg.IndexByte"], unfollowed := true, recurses := true, apart := false, narrowed := true }
def LinesManyUptoSaid : Prop := linesManyUptoRow.holds Try.pinned (OpenSpec.upto linesManySpec)

/-- 'assayerlaw12.LinesEnds', WHERE WHAT IT READS IS OF BULK AT MOST 1048576: true; the input reads as it did. -/
def linesEndsUptoRow : OpenClaim := { program := "ytjjppbfknjeddaa", sum := "51914a7062b0c1ce77166e46f29bee9c26fabaa3fcb8cefb6ce2859a221f6660", func := "assayer/assayerlaw12.LinesEnds", spec := "linesEnds", inPlace := ["internal/bytealg.IndexByte"], unfollowed := true, recurses := true, apart := false, narrowed := true }
def LinesEndsUptoSaid : Prop := linesEndsUptoRow.holds Try.pinned (OpenSpec.upto linesEndsSpec)

/-- 'assayerlaw12.LinesLong', WHERE WHAT IT READS IS OF BULK AT MOST 1048576: true; the input reads as it did. -/
def linesLongUptoRow : OpenClaim := { program := "ytjjppbfknjeddaa", sum := "51914a7062b0c1ce77166e46f29bee9c26fabaa3fcb8cefb6ce2859a221f6660", func := "assayer/assayerlaw12.LinesLong", spec := "linesLong", inPlace := ["internal/bytealg.IndexByte"], unfollowed := true, recurses := true, apart := false, narrowed := true }
def LinesLongUptoSaid : Prop := linesLongUptoRow.holds Try.pinned (OpenSpec.upto linesLongSpec)

/-- 'assayerlaw12.LinesJoins', WHERE WHAT IT READS IS OF BULK AT MOST 1048576: true; the input reads as it did. -/
def linesJoinsUptoRow : OpenClaim := { program := "ytjjppbfknjeddaa", sum := "51914a7062b0c1ce77166e46f29bee9c26fabaa3fcb8cefb6ce2859a221f6660", func := "assayer/assayerlaw12.LinesJoins", spec := "linesJoins", inPlace := ["internal/bytealg.IndexByte"], unfollowed := true, recurses := true, apart := false, narrowed := true }
def LinesJoinsUptoSaid : Prop := linesJoinsUptoRow.holds Try.pinned (OpenSpec.upto linesJoinsSpec)

/-- 'assayerlaw12.LinesBad', WHERE WHAT IT READS IS OF BULK AT MOST 1048576: true; the input reads as it did. -/
def linesBadUptoRow : OpenClaim := { program := "ytjjppbfknjeddaa", sum := "51914a7062b0c1ce77166e46f29bee9c26fabaa3fcb8cefb6ce2859a221f6660", func := "assayer/assayerlaw12.LinesBad", spec := "linesBad", inPlace := ["internal/bytealg.IndexByte"], unfollowed := true, recurses := true, apart := false, narrowed := true }
def LinesBadUptoSaid : Prop := linesBadUptoRow.holds Try.pinned (OpenSpec.upto linesBadSpec)

end Rows
end Go.Proofs.Ytjjppbfknjeddaa
