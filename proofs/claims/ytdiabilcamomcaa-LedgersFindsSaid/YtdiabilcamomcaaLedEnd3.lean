/- Each tenant is found by its name: with the fixed answers. -/
import Derived.Test.YtdiabilcamomcaaLedAlive
import Derived.Test.YtdiabilcamomcaaLedFinds
namespace Go.Proofs.Ytdiabilcamomcaa
open Go.RowKit
theorem LedgersFinds_any {w : World} {T : List Ten} {ao : Option Addr} {len cap : Nat} (h : Tens w ao len cap T) (hok : ∀ i, i < len → TenOk (nth T i)) {s : ByteArray} (hs : s.size ≤ maxLen) :
    Calls Try.prog 7 #[.slice ao len cap, .string s] w fun e w' => e = .returned (.bool true) ∧ Below w.heap.size w w' := LedgersFinds_of (fun w => alive_any w) h hok hs
end Go.Proofs.Ytdiabilcamomcaa
