/-
  No cell of these rows narrows 'for every input' (looked for: loops, veiled, ifaces, maps, wideKeys, modest, calm, conditions, laid).
  DERIVED. THE GIVEN ROWS OF THIS SEAT. 6 by the template 'for every input the law returns true; each argument reads behind the call as it read before'; 0 by the template 'total and deterministic' (their statements: YtdiabilcamomcaaTotals.lean).
  GIVEN WITH THE SEED: the statements are not yours to turn. If you find one false, say at which input.
  Laid BY PROGRAM, IN A SANDBOX (cutbox-rows.mjs): the forced cells as the released guide's own fill.sh prints them over the translation 23d1c396d2821afa… (all of the seat's roots in one cut). By AI agents, Wed Nov 11 2026. No macro, syntax, notation, axiom, sorry.
-/
import Derived.Test.YtdiabilcamomcaaChecked
import GoSem.Claim
import GoSem.ClaimJoined
import GoSem.ClaimMapViews
import Derived.JoinedTies
import Derived.KernelRfl
namespace Go.Proofs.Ytdiabilcamomcaa
/- THE CELL 'sum', in the pinned program and in every row, IS THE sha256 OF THE DUMP (.gsa) THAT YtdiabilcamomcaaProg.lean LOADS. Nothing in Lean hashes anything: it is a label: what it is worth is what the hold of that sum in a sandbox is worth. -/
noncomputable def Try.pinned : Pinned := { name := "ytdiabilcamomcaa", sum := "23d1c396d2821afa040fbd85dfaac050f91e2353aee2c98599f94ddc5c1bb408", checked := Try.checked }
namespace Rows
def none {H : Type} : Left H := { results := [], args := [] }

/-- 'assayerlaw13.LedgersNone': WHATEVER THE INPUT: true; the input reads as it did. -/
def ledgersNoneSpec : ChangeSpec := { name := "ledgersNone", fn := fun _ => fun
  | [d1, d2, d3] => { results := [.lit (.bool true)], args := [d1, d2, d3] }
  | _ => none }
def ledgersNoneRow : OpenClaim := { program := "ytdiabilcamomcaa", sum := "23d1c396d2821afa040fbd85dfaac050f91e2353aee2c98599f94ddc5c1bb408", func := "assayer/assayerlaw13.LedgersNone", spec := "ledgersNone", apart := false }
def LedgersNoneSaid : Prop := ledgersNoneRow.holds Try.pinned (OpenSpec.ofChange ledgersNoneSpec)

/-- ITS FALSE NEIGHBOUR: 'it returns false'. Refute it at one input. -/
def ledgersNoneWrong : ChangeSpec := { name := "ledgersNone", fn := fun _ => fun
  | [d1, d2, d3] => { results := [.lit (.bool false)], args := [d1, d2, d3] }
  | _ => none }
def LedgersNoneWrongFalsely : Prop := ledgersNoneRow.holds Try.pinned (OpenSpec.ofChange ledgersNoneWrong)

/-- 'assayerlaw13.LedgersPlays': WHATEVER THE INPUT: true; the input reads as it did. -/
def ledgersPlaysSpec : ChangeSpec := { name := "ledgersPlays", fn := fun _ => fun
  | [d1, d2] => { results := [.lit (.bool true)], args := [d1, d2] }
  | _ => none }
def ledgersPlaysRow : OpenClaim := { program := "ytdiabilcamomcaa", sum := "23d1c396d2821afa040fbd85dfaac050f91e2353aee2c98599f94ddc5c1bb408", func := "assayer/assayerlaw13.LedgersPlays", spec := "ledgersPlays", apart := false }
def LedgersPlaysSaid : Prop := ledgersPlaysRow.holds Try.pinned (OpenSpec.ofChange ledgersPlaysSpec)

/-- ITS FALSE NEIGHBOUR: 'it returns false'. Refute it at one input. -/
def ledgersPlaysWrong : ChangeSpec := { name := "ledgersPlays", fn := fun _ => fun
  | [d1, d2] => { results := [.lit (.bool false)], args := [d1, d2] }
  | _ => none }
def LedgersPlaysWrongFalsely : Prop := ledgersPlaysRow.holds Try.pinned (OpenSpec.ofChange ledgersPlaysWrong)

/-- 'assayerlaw13.LedgersWhole': WHATEVER THE INPUT: true; the input reads as it did. -/
def ledgersWholeSpec : ChangeSpec := { name := "ledgersWhole", fn := fun _ => fun
  | [d1, d2, d3] => { results := [.lit (.bool true)], args := [d1, d2, d3] }
  | _ => none }
def ledgersWholeRow : OpenClaim := { program := "ytdiabilcamomcaa", sum := "23d1c396d2821afa040fbd85dfaac050f91e2353aee2c98599f94ddc5c1bb408", func := "assayer/assayerlaw13.LedgersWhole", spec := "ledgersWhole", apart := false }
def LedgersWholeSaid : Prop := ledgersWholeRow.holds Try.pinned (OpenSpec.ofChange ledgersWholeSpec)

/-- ITS FALSE NEIGHBOUR: 'it returns false'. Refute it at one input. -/
def ledgersWholeWrong : ChangeSpec := { name := "ledgersWhole", fn := fun _ => fun
  | [d1, d2, d3] => { results := [.lit (.bool false)], args := [d1, d2, d3] }
  | _ => none }
def LedgersWholeWrongFalsely : Prop := ledgersWholeRow.holds Try.pinned (OpenSpec.ofChange ledgersWholeWrong)

/-- 'assayerlaw13.LedgersApart': WHATEVER THE INPUT: true; the input reads as it did. -/
def ledgersApartSpec : ChangeSpec := { name := "ledgersApart", fn := fun _ => fun
  | [d1, d2, d3] => { results := [.lit (.bool true)], args := [d1, d2, d3] }
  | _ => none }
def ledgersApartRow : OpenClaim := { program := "ytdiabilcamomcaa", sum := "23d1c396d2821afa040fbd85dfaac050f91e2353aee2c98599f94ddc5c1bb408", func := "assayer/assayerlaw13.LedgersApart", spec := "ledgersApart", apart := false }
def LedgersApartSaid : Prop := ledgersApartRow.holds Try.pinned (OpenSpec.ofChange ledgersApartSpec)

/-- ITS FALSE NEIGHBOUR: 'it returns false'. Refute it at one input. -/
def ledgersApartWrong : ChangeSpec := { name := "ledgersApart", fn := fun _ => fun
  | [d1, d2, d3] => { results := [.lit (.bool false)], args := [d1, d2, d3] }
  | _ => none }
def LedgersApartWrongFalsely : Prop := ledgersApartRow.holds Try.pinned (OpenSpec.ofChange ledgersApartWrong)

/-- 'assayerlaw13.LedgersFinds': WHATEVER THE INPUT: true; the input reads as it did. -/
def ledgersFindsSpec : ChangeSpec := { name := "ledgersFinds", fn := fun _ => fun
  | [d1, d2] => { results := [.lit (.bool true)], args := [d1, d2] }
  | _ => none }
def ledgersFindsRow : OpenClaim := { program := "ytdiabilcamomcaa", sum := "23d1c396d2821afa040fbd85dfaac050f91e2353aee2c98599f94ddc5c1bb408", func := "assayer/assayerlaw13.LedgersFinds", spec := "ledgersFinds", apart := false }
def LedgersFindsSaid : Prop := ledgersFindsRow.holds Try.pinned (OpenSpec.ofChange ledgersFindsSpec)

/-- ITS FALSE NEIGHBOUR: 'it returns false'. Refute it at one input. -/
def ledgersFindsWrong : ChangeSpec := { name := "ledgersFinds", fn := fun _ => fun
  | [d1, d2] => { results := [.lit (.bool false)], args := [d1, d2] }
  | _ => none }
def LedgersFindsWrongFalsely : Prop := ledgersFindsRow.holds Try.pinned (OpenSpec.ofChange ledgersFindsWrong)

/-- 'assayerlaw13.LedgersTwo': WHATEVER THE INPUT: true; the input reads as it did. -/
def ledgersTwoSpec : ChangeSpec := { name := "ledgersTwo", fn := fun _ => fun
  | [d1, d2, d3] => { results := [.lit (.bool true)], args := [d1, d2, d3] }
  | _ => none }
def ledgersTwoRow : OpenClaim := { program := "ytdiabilcamomcaa", sum := "23d1c396d2821afa040fbd85dfaac050f91e2353aee2c98599f94ddc5c1bb408", func := "assayer/assayerlaw13.LedgersTwo", spec := "ledgersTwo", apart := false }
def LedgersTwoSaid : Prop := ledgersTwoRow.holds Try.pinned (OpenSpec.ofChange ledgersTwoSpec)

/-- ITS FALSE NEIGHBOUR: 'it returns false'. Refute it at one input. -/
def ledgersTwoWrong : ChangeSpec := { name := "ledgersTwo", fn := fun _ => fun
  | [d1, d2, d3] => { results := [.lit (.bool false)], args := [d1, d2, d3] }
  | _ => none }
def LedgersTwoWrongFalsely : Prop := ledgersTwoRow.holds Try.pinned (OpenSpec.ofChange ledgersTwoWrong)

/- THE SECOND FORM. 'bulk': how many values and letters a reading holds, each counted each time it is reached (what is shared counts as often as it is met; a slice's spare places count too). A statement '..UptoSaid' is the law's where the arguments, and the package variables that the reading takes, are together of bulk at most 1048576: NARROWER than '..Said'. Prove '..Said' where nothing that the law and all that it calls make is longer than what came in: it says more and counts as full. Else prove '..UptoSaid'. A law counts once. -/
mutual
def uptoBulk {H : Type} : DataW H → Nat
  | .lit (.string bytes) => bytes.length + 1
  | .lit _ => 1
  | .nil => 1
  | .ptr d => uptoBulk d + 1
  | .slice elems spare => uptoBulkAll elems + uptoBulkAll spare + 1
  | .agg parts => uptoBulkAll parts + 1
  | .iface _ d => uptoBulk d + 1
  | .map entries => uptoBulkEntries entries + 1
  | .held _ => 1
def uptoBulkAll {H : Type} : List (DataW H) → Nat
  | [] => 0
  | d :: r => uptoBulk d + uptoBulkAll r
def uptoBulkEntries {H : Type} : List (Lit × DataW H) → Nat
  | [] => 0
  | x :: r => uptoBulkEntry x + uptoBulkEntries r
def uptoBulkEntry {H : Type} : Lit × DataW H → Nat
  | (.string bytes, d) => bytes.length + uptoBulk d + 1
  | (_, d) => uptoBulk d + 1
 end
def uptoSmall : (H : Type) → List (DataW H) → Bool := fun _ ds => decide (uptoBulkAll ds ≤ 1048576)
def OpenSpec.upto (s : _root_.Go.ChangeSpec) : _root_.Go.OpenSpec := { _root_.Go.OpenSpec.ofChange s with cond := some uptoSmall }

/-- 'assayerlaw13.LedgersNone', WHERE WHAT IT READS IS OF BULK AT MOST 1048576: true; the input reads as it did. -/
def ledgersNoneUptoRow : OpenClaim := { program := "ytdiabilcamomcaa", sum := "23d1c396d2821afa040fbd85dfaac050f91e2353aee2c98599f94ddc5c1bb408", func := "assayer/assayerlaw13.LedgersNone", spec := "ledgersNone", apart := false, narrowed := true }
def LedgersNoneUptoSaid : Prop := ledgersNoneUptoRow.holds Try.pinned (OpenSpec.upto ledgersNoneSpec)

/-- 'assayerlaw13.LedgersPlays', WHERE WHAT IT READS IS OF BULK AT MOST 1048576: true; the input reads as it did. -/
def ledgersPlaysUptoRow : OpenClaim := { program := "ytdiabilcamomcaa", sum := "23d1c396d2821afa040fbd85dfaac050f91e2353aee2c98599f94ddc5c1bb408", func := "assayer/assayerlaw13.LedgersPlays", spec := "ledgersPlays", apart := false, narrowed := true }
def LedgersPlaysUptoSaid : Prop := ledgersPlaysUptoRow.holds Try.pinned (OpenSpec.upto ledgersPlaysSpec)

/-- 'assayerlaw13.LedgersWhole', WHERE WHAT IT READS IS OF BULK AT MOST 1048576: true; the input reads as it did. -/
def ledgersWholeUptoRow : OpenClaim := { program := "ytdiabilcamomcaa", sum := "23d1c396d2821afa040fbd85dfaac050f91e2353aee2c98599f94ddc5c1bb408", func := "assayer/assayerlaw13.LedgersWhole", spec := "ledgersWhole", apart := false, narrowed := true }
def LedgersWholeUptoSaid : Prop := ledgersWholeUptoRow.holds Try.pinned (OpenSpec.upto ledgersWholeSpec)

/-- 'assayerlaw13.LedgersApart', WHERE WHAT IT READS IS OF BULK AT MOST 1048576: true; the input reads as it did. -/
def ledgersApartUptoRow : OpenClaim := { program := "ytdiabilcamomcaa", sum := "23d1c396d2821afa040fbd85dfaac050f91e2353aee2c98599f94ddc5c1bb408", func := "assayer/assayerlaw13.LedgersApart", spec := "ledgersApart", apart := false, narrowed := true }
def LedgersApartUptoSaid : Prop := ledgersApartUptoRow.holds Try.pinned (OpenSpec.upto ledgersApartSpec)

/-- 'assayerlaw13.LedgersFinds', WHERE WHAT IT READS IS OF BULK AT MOST 1048576: true; the input reads as it did. -/
def ledgersFindsUptoRow : OpenClaim := { program := "ytdiabilcamomcaa", sum := "23d1c396d2821afa040fbd85dfaac050f91e2353aee2c98599f94ddc5c1bb408", func := "assayer/assayerlaw13.LedgersFinds", spec := "ledgersFinds", apart := false, narrowed := true }
def LedgersFindsUptoSaid : Prop := ledgersFindsUptoRow.holds Try.pinned (OpenSpec.upto ledgersFindsSpec)

/-- 'assayerlaw13.LedgersTwo', WHERE WHAT IT READS IS OF BULK AT MOST 1048576: true; the input reads as it did. -/
def ledgersTwoUptoRow : OpenClaim := { program := "ytdiabilcamomcaa", sum := "23d1c396d2821afa040fbd85dfaac050f91e2353aee2c98599f94ddc5c1bb408", func := "assayer/assayerlaw13.LedgersTwo", spec := "ledgersTwo", apart := false, narrowed := true }
def LedgersTwoUptoSaid : Prop := ledgersTwoUptoRow.holds Try.pinned (OpenSpec.upto ledgersTwoSpec)

end Rows
end Go.Proofs.Ytdiabilcamomcaa
