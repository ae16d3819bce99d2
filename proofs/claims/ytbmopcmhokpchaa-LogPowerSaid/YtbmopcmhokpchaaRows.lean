/-
  No cell of these rows narrows 'for every input' (looked for: loops, veiled, ifaces, maps, wideKeys, modest, calm, conditions, laid).
  DERIVED. THE GIVEN ROWS OF THIS SEAT. 9 by the template 'for every input the law returns true; each argument reads behind the call as it read before'; 0 by the template 'total and deterministic' (their statements: YtbmopcmhokpchaaTotals.lean).
  GIVEN WITH THE SEED: the statements are not yours to turn. If you find one false, say at which input.
  Laid BY PROGRAM, IN A SANDBOX (cutbox-rows.mjs): the forced cells as the released guide's own fill.sh prints them over the translation 563ffb2b074f977c… (all of the seat's roots in one cut). By AI agents, Wed Nov 11 2026. No macro, syntax, notation, axiom, sorry.
-/
import Derived.Test.YtbmopcmhokpchaaChecked
import GoSem.Claim
import GoSem.ClaimJoined
import GoSem.ClaimMapViews
import Derived.JoinedTies
import Derived.KernelRfl
namespace Go.Proofs.Ytbmopcmhokpchaa
/- THE CELL 'sum', in the pinned program and in every row, IS THE sha256 OF THE DUMP (.gsa) THAT YtbmopcmhokpchaaProg.lean LOADS. Nothing in Lean hashes anything: it is a label: what it is worth is what the hold of that sum in a sandbox is worth. -/
noncomputable def Try.pinned : Pinned := { name := "ytbmopcmhokpchaa", sum := "563ffb2b074f977cf1ae7cc7ec4a4b066f5229e03eaeff19ed8ce596bdf76dba", checked := Try.checked }
namespace Rows
def none {H : Type} : Left H := { results := [], args := [] }

/-- 'assayerlaw10.SumsTexts': WHATEVER THE INPUT: true; the input reads as it did. -/
def sumsTextsSpec : ChangeSpec := { name := "sumsTexts", fn := fun _ => fun
  | [d] => { results := [.lit (.bool true)], args := [d] }
  | _ => none }
def sumsTextsRow : OpenClaim := { program := "ytbmopcmhokpchaa", sum := "563ffb2b074f977cf1ae7cc7ec4a4b066f5229e03eaeff19ed8ce596bdf76dba", func := "assayer/assayerlaw10.SumsTexts", spec := "sumsTexts", apart := false }
def SumsTextsSaid : Prop := sumsTextsRow.holds Try.pinned (OpenSpec.ofChange sumsTextsSpec)

/-- ITS FALSE NEIGHBOUR: 'it returns false'. Refute it at one input. -/
def sumsTextsWrong : ChangeSpec := { name := "sumsTexts", fn := fun _ => fun
  | [d] => { results := [.lit (.bool false)], args := [d] }
  | _ => none }
def SumsTextsWrongFalsely : Prop := sumsTextsRow.holds Try.pinned (OpenSpec.ofChange sumsTextsWrong)

/-- 'assayerlaw19.DiskFails': WHATEVER THE INPUT: true; the input reads as it did. -/
def diskFailsSpec : ChangeSpec := { name := "diskFails", fn := fun _ => fun
  | [d1, d2] => { results := [.lit (.bool true)], args := [d1, d2] }
  | _ => none }
def diskFailsRow : OpenClaim := { program := "ytbmopcmhokpchaa", sum := "563ffb2b074f977cf1ae7cc7ec4a4b066f5229e03eaeff19ed8ce596bdf76dba", func := "assayer/assayerlaw19.DiskFails", spec := "diskFails", apart := false }
def DiskFailsSaid : Prop := diskFailsRow.holds Try.pinned (OpenSpec.ofChange diskFailsSpec)

/-- ITS FALSE NEIGHBOUR: 'it returns false'. Refute it at one input. -/
def diskFailsWrong : ChangeSpec := { name := "diskFails", fn := fun _ => fun
  | [d1, d2] => { results := [.lit (.bool false)], args := [d1, d2] }
  | _ => none }
def DiskFailsWrongFalsely : Prop := diskFailsRow.holds Try.pinned (OpenSpec.ofChange diskFailsWrong)

/-- 'assayerlaw19.DiskJoins': WHATEVER THE INPUT: true; the input reads as it did. -/
def diskJoinsSpec : ChangeSpec := { name := "diskJoins", fn := fun _ => fun
  | [d1, d2, d3] => { results := [.lit (.bool true)], args := [d1, d2, d3] }
  | _ => none }
def diskJoinsRow : OpenClaim := { program := "ytbmopcmhokpchaa", sum := "563ffb2b074f977cf1ae7cc7ec4a4b066f5229e03eaeff19ed8ce596bdf76dba", func := "assayer/assayerlaw19.DiskJoins", spec := "diskJoins", apart := false }
def DiskJoinsSaid : Prop := diskJoinsRow.holds Try.pinned (OpenSpec.ofChange diskJoinsSpec)

/-- ITS FALSE NEIGHBOUR: 'it returns false'. Refute it at one input. -/
def diskJoinsWrong : ChangeSpec := { name := "diskJoins", fn := fun _ => fun
  | [d1, d2, d3] => { results := [.lit (.bool false)], args := [d1, d2, d3] }
  | _ => none }
def DiskJoinsWrongFalsely : Prop := diskJoinsRow.holds Try.pinned (OpenSpec.ofChange diskJoinsWrong)

/-- 'assayerlaw10.SumsOf': WHATEVER THE INPUT: true; the input reads as it did. -/
def sumsOfSpec : ChangeSpec := { name := "sumsOf", fn := fun _ => fun
  | [d1, d2] => { results := [.lit (.bool true)], args := [d1, d2] }
  | _ => none }
def sumsOfRow : OpenClaim := { program := "ytbmopcmhokpchaa", sum := "563ffb2b074f977cf1ae7cc7ec4a4b066f5229e03eaeff19ed8ce596bdf76dba", func := "assayer/assayerlaw10.SumsOf", spec := "sumsOf", unfollowed := true, recurses := true, apart := false }
def SumsOfSaid : Prop := sumsOfRow.holds Try.pinned (OpenSpec.ofChange sumsOfSpec)

/-- ITS FALSE NEIGHBOUR: 'it returns false'. Refute it at one input. -/
def sumsOfWrong : ChangeSpec := { name := "sumsOf", fn := fun _ => fun
  | [d1, d2] => { results := [.lit (.bool false)], args := [d1, d2] }
  | _ => none }
def SumsOfWrongFalsely : Prop := sumsOfRow.holds Try.pinned (OpenSpec.ofChange sumsOfWrong)

/-- 'assayerlaw10.SumsKeys': WHATEVER THE INPUT: true; the input reads as it did. -/
def sumsKeysSpec : ChangeSpec := { name := "sumsKeys", fn := fun _ => fun
  | [d1, d2, d3] => { results := [.lit (.bool true)], args := [d1, d2, d3] }
  | _ => none }
def sumsKeysRow : OpenClaim := { program := "ytbmopcmhokpchaa", sum := "563ffb2b074f977cf1ae7cc7ec4a4b066f5229e03eaeff19ed8ce596bdf76dba", func := "assayer/assayerlaw10.SumsKeys", spec := "sumsKeys", unfollowed := true, recurses := true, apart := false }
def SumsKeysSaid : Prop := sumsKeysRow.holds Try.pinned (OpenSpec.ofChange sumsKeysSpec)

/-- ITS FALSE NEIGHBOUR: 'it returns false'. Refute it at one input. -/
def sumsKeysWrong : ChangeSpec := { name := "sumsKeys", fn := fun _ => fun
  | [d1, d2, d3] => { results := [.lit (.bool false)], args := [d1, d2, d3] }
  | _ => none }
def SumsKeysWrongFalsely : Prop := sumsKeysRow.holds Try.pinned (OpenSpec.ofChange sumsKeysWrong)

/-- 'assayerlaw10.SumsInner': WHATEVER THE INPUT: true; the input reads as it did. -/
def sumsInnerSpec : ChangeSpec := { name := "sumsInner", fn := fun _ => fun
  | [d1, d2] => { results := [.lit (.bool true)], args := [d1, d2] }
  | _ => none }
def sumsInnerRow : OpenClaim := { program := "ytbmopcmhokpchaa", sum := "563ffb2b074f977cf1ae7cc7ec4a4b066f5229e03eaeff19ed8ce596bdf76dba", func := "assayer/assayerlaw10.SumsInner", spec := "sumsInner", unfollowed := true, recurses := true, apart := false }
def SumsInnerSaid : Prop := sumsInnerRow.holds Try.pinned (OpenSpec.ofChange sumsInnerSpec)

/-- ITS FALSE NEIGHBOUR: 'it returns false'. Refute it at one input. -/
def sumsInnerWrong : ChangeSpec := { name := "sumsInner", fn := fun _ => fun
  | [d1, d2] => { results := [.lit (.bool false)], args := [d1, d2] }
  | _ => none }
def SumsInnerWrongFalsely : Prop := sumsInnerRow.holds Try.pinned (OpenSpec.ofChange sumsInnerWrong)

/-- 'assayerlaw10.SumsTold': WHATEVER THE INPUT: true; the input reads as it did. -/
def sumsToldSpec : ChangeSpec := { name := "sumsTold", fn := fun _ => fun
  | [d1, d2] => { results := [.lit (.bool true)], args := [d1, d2] }
  | _ => none }
def sumsToldRow : OpenClaim := { program := "ytbmopcmhokpchaa", sum := "563ffb2b074f977cf1ae7cc7ec4a4b066f5229e03eaeff19ed8ce596bdf76dba", func := "assayer/assayerlaw10.SumsTold", spec := "sumsTold", unfollowed := true, recurses := true, apart := false }
def SumsToldSaid : Prop := sumsToldRow.holds Try.pinned (OpenSpec.ofChange sumsToldSpec)

/-- ITS FALSE NEIGHBOUR: 'it returns false'. Refute it at one input. -/
def sumsToldWrong : ChangeSpec := { name := "sumsTold", fn := fun _ => fun
  | [d1, d2] => { results := [.lit (.bool false)], args := [d1, d2] }
  | _ => none }
def SumsToldWrongFalsely : Prop := sumsToldRow.holds Try.pinned (OpenSpec.ofChange sumsToldWrong)

/-- 'assayerlaw20.LogAdds': WHATEVER THE INPUT: true; the input reads as it did. -/
def logAddsSpec : ChangeSpec := { name := "logAdds", fn := fun _ => fun
  | [d1, d2] => { results := [.lit (.bool true)], args := [d1, d2] }
  | _ => none }
def logAddsRow : OpenClaim := { program := "ytbmopcmhokpchaa", sum := "563ffb2b074f977cf1ae7cc7ec4a4b066f5229e03eaeff19ed8ce596bdf76dba", func := "assayer/assayerlaw20.LogAdds", spec := "logAdds", unfollowed := true, recurses := true, apart := false }
def LogAddsSaid : Prop := logAddsRow.holds Try.pinned (OpenSpec.ofChange logAddsSpec)

/-- ITS FALSE NEIGHBOUR: 'it returns false'. Refute it at one input. -/
def logAddsWrong : ChangeSpec := { name := "logAdds", fn := fun _ => fun
  | [d1, d2] => { results := [.lit (.bool false)], args := [d1, d2] }
  | _ => none }
def LogAddsWrongFalsely : Prop := logAddsRow.holds Try.pinned (OpenSpec.ofChange logAddsWrong)

/-- 'assayerlaw20.LogPower': WHATEVER THE INPUT: true; the input reads as it did. -/
def logPowerSpec : ChangeSpec := { name := "logPower", fn := fun _ => fun
  | [d1, d2, d3] => { results := [.lit (.bool true)], args := [d1, d2, d3] }
  | _ => none }
def logPowerRow : OpenClaim := { program := "ytbmopcmhokpchaa", sum := "563ffb2b074f977cf1ae7cc7ec4a4b066f5229e03eaeff19ed8ce596bdf76dba", func := "assayer/assayerlaw20.LogPower", spec := "logPower", unfollowed := true, recurses := true, apart := false }
def LogPowerSaid : Prop := logPowerRow.holds Try.pinned (OpenSpec.ofChange logPowerSpec)

/-- ITS FALSE NEIGHBOUR: 'it returns false'. Refute it at one input. -/
def logPowerWrong : ChangeSpec := { name := "logPower", fn := fun _ => fun
  | [d1, d2, d3] => { results := [.lit (.bool false)], args := [d1, d2, d3] }
  | _ => none }
def LogPowerWrongFalsely : Prop := logPowerRow.holds Try.pinned (OpenSpec.ofChange logPowerWrong)

/- THE SECOND FORM. 'bulk': how many values and letters a reading holds, each counted each time it is reached (what is shared counts as often as it is met; a slice's spare places count too). A statement '..UptoSaid' is the law's where the arguments, and the package variables that the reading takes, are together of bulk at most 1048576: NARROWER than '..Said'. Prove '..Said' where nothing that the law and all that it calls make is longer than what came in: it says more and counts as full. Else prove '..UptoSaid'. A law counts once. -/
mutual
def uptoBulk {H : Type} : DataW H → Nat
  | .lit (.string bytes) => bytes.length + 1
  | .lit _ => 1
  | .nil => 1
  | .ptr d => uptoBulk d + 1
  | .slice elems spare => uptoBulkAll elems + uptoBulkAll spare + 1
  | .agg parts => uptoBulkAll parts + 1
  | .iface _ d => uptoBulk d + 1
  | .map entries => uptoBulkEntries entries + 1
  | .held _ => 1
def uptoBulkAll {H : Type} : List (DataW H) → Nat
  | [] => 0
  | d :: r => uptoBulk d + uptoBulkAll r
def uptoBulkEntries {H : Type} : List (Lit × DataW H) → Nat
  | [] => 0
  | x :: r => uptoBulkEntry x + uptoBulkEntries r
def uptoBulkEntry {H : Type} : Lit × DataW H → Nat
  | (.string bytes, d) => bytes.length + uptoBulk d + 1
  | (_, d) => uptoBulk d + 1
 end
def uptoSmall : (H : Type) → List (DataW H) → Bool := fun _ ds => decide (uptoBulkAll ds ≤ 1048576)
def OpenSpec.upto (s : _root_.Go.ChangeSpec) : _root_.Go.OpenSpec := { _root_.Go.OpenSpec.ofChange s with cond := some uptoSmall }

/-- 'assayerlaw10.SumsTexts', WHERE WHAT IT READS IS OF BULK AT MOST 1048576: true; the input reads as it did. -/
def sumsTextsUptoRow : OpenClaim := { program := "ytbmopcmhokpchaa", sum := "563ffb2b074f977cf1ae7cc7ec4a4b066f5229e03eaeff19ed8ce596bdf76dba", func := "assayer/assayerlaw10.SumsTexts", spec := "sumsTexts", apart := false, narrowed := true }
def SumsTextsUptoSaid : Prop := sumsTextsUptoRow.holds Try.pinned (OpenSpec.upto sumsTextsSpec)

/-- 'assayerlaw19.DiskFails', WHERE WHAT IT READS IS OF BULK AT MOST 1048576: true; the input reads as it did. -/
def diskFailsUptoRow : OpenClaim := { program := "ytbmopcmhokpchaa", sum := "563ffb2b074f977cf1ae7cc7ec4a4b066f5229e03eaeff19ed8ce596bdf76dba", func := "assayer/assayerlaw19.DiskFails", spec := "diskFails", apart := false, narrowed := true }
def DiskFailsUptoSaid : Prop := diskFailsUptoRow.holds Try.pinned (OpenSpec.upto diskFailsSpec)

/-- 'assayerlaw19.DiskJoins', WHERE WHAT IT READS IS OF BULK AT MOST 1048576: true; the input reads as it did. -/
def diskJoinsUptoRow : OpenClaim := { program := "ytbmopcmhokpchaa", sum := "563ffb2b074f977cf1ae7cc7ec4a4b066f5229e03eaeff19ed8ce596bdf76dba", func := "assayer/assayerlaw19.DiskJoins", spec := "diskJoins", apart := false, narrowed := true }
def DiskJoinsUptoSaid : Prop := diskJoinsUptoRow.holds Try.pinned (OpenSpec.upto diskJoinsSpec)

/-- 'assayerlaw10.SumsOf', WHERE WHAT IT READS IS OF BULK AT MOST 1048576: true; the input reads as it did. -/
def sumsOfUptoRow : OpenClaim := { program := "ytbmopcmhokpchaa", sum := "563ffb2b074f977cf1ae7cc7ec4a4b066f5229e03eaeff19ed8ce596bdf76dba", func := "assayer/assayerlaw10.SumsOf", spec := "sumsOf", unfollowed := true, recurses := true, apart := false, narrowed := true }
def SumsOfUptoSaid : Prop := sumsOfUptoRow.holds Try.pinned (OpenSpec.upto sumsOfSpec)

/-- 'assayerlaw10.SumsKeys', WHERE WHAT IT READS IS OF BULK AT MOST 1048576: true; the input reads as it did. -/
def sumsKeysUptoRow : OpenClaim := { program := "ytbmopcmhokpchaa", sum := "563ffb2b074f977cf1ae7cc7ec4a4b066f5229e03eaeff19ed8ce596bdf76dba", func := "assayer/assayerlaw10.SumsKeys", spec := "sumsKeys", unfollowed := true, recurses := true, apart := false, narrowed := true }
def SumsKeysUptoSaid : Prop := sumsKeysUptoRow.holds Try.pinned (OpenSpec.upto sumsKeysSpec)

/-- 'assayerlaw10.SumsInner', WHERE WHAT IT READS IS OF BULK AT MOST 1048576: true; the input reads as it did. -/
def sumsInnerUptoRow : OpenClaim := { program := "ytbmopcmhokpchaa", sum := "563ffb2b074f977cf1ae7cc7ec4a4b066f5229e03eaeff19ed8ce596bdf76dba", func := "assayer/assayerlaw10.SumsInner", spec := "sumsInner", unfollowed := true, recurses := true, apart := false, narrowed := true }
def SumsInnerUptoSaid : Prop := sumsInnerUptoRow.holds Try.pinned (OpenSpec.upto sumsInnerSpec)

/-- 'assayerlaw10.SumsTold', WHERE WHAT IT READS IS OF BULK AT MOST 1048576: true; the input reads as it did. -/
def sumsToldUptoRow : OpenClaim := { program := "ytbmopcmhokpchaa", sum := "563ffb2b074f977cf1ae7cc7ec4a4b066f5229e03eaeff19ed8ce596bdf76dba", func := "assayer/assayerlaw10.SumsTold", spec := "sumsTold", unfollowed := true, recurses := true, apart := false, narrowed := true }
def SumsToldUptoSaid : Prop := sumsToldUptoRow.holds Try.pinned (OpenSpec.upto sumsToldSpec)

/-- 'assayerlaw20.LogAdds', WHERE WHAT IT READS IS OF BULK AT MOST 1048576: true; the input reads as it did. -/
def logAddsUptoRow : OpenClaim := { program := "ytbmopcmhokpchaa", sum := "563ffb2b074f977cf1ae7cc7ec4a4b066f5229e03eaeff19ed8ce596bdf76dba", func := "assayer/assayerlaw20.LogAdds", spec := "logAdds", unfollowed := true, recurses := true, apart := false, narrowed := true }
def LogAddsUptoSaid : Prop := logAddsUptoRow.holds Try.pinned (OpenSpec.upto logAddsSpec)

/-- 'assayerlaw20.LogPower', WHERE WHAT IT READS IS OF BULK AT MOST 1048576: true; the input reads as it did. -/
def logPowerUptoRow : OpenClaim := { program := "ytbmopcmhokpchaa", sum := "563ffb2b074f977cf1ae7cc7ec4a4b066f5229e03eaeff19ed8ce596bdf76dba", func := "assayer/assayerlaw20.LogPower", spec := "logPower", unfollowed := true, recurses := true, apart := false, narrowed := true }
def LogPowerUptoSaid : Prop := logPowerUptoRow.holds Try.pinned (OpenSpec.upto logPowerSpec)

end Rows
end Go.Proofs.Ytbmopcmhokpchaa
