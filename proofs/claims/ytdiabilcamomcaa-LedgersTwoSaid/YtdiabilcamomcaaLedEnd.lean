/- The laws on ledgers that lean on the fixed answers. -/
import Derived.Test.YtdiabilcamomcaaLedAlive
import Derived.Test.YtdiabilcamomcaaLedTwo
namespace Go.Proofs.Ytdiabilcamomcaa
open Go.RowKit
theorem alive_yes : Alive := fun w => alive_any w
theorem LedgersApart_any {w : World} {T : List Ten} {ao : Option Addr} {len cap : Nat} (h : Tens w ao len cap T) (hok : ∀ i, i < len → TenOk (nth T i)) {x n : Int} (hx : (Lit.int .u8 x).wf = true) (hn : (Lit.int .i64 n).wf = true) :
    Calls Try.prog 6 #[.slice ao len cap, .int .u8 x, .int .i64 n] w fun e w' => e = .returned (.bool true) ∧ Below w.heap.size w w' := LedgersApart_of alive_yes h hok hx hn
theorem LedgersTwo_any {w : World} {T : List Ten} {ao : Option Addr} {len cap : Nat} (h : Tens w ao len cap T) (hok : ∀ i, i < len → TenOk (nth T i)) {x n : Int} (hx : (Lit.int .u8 x).wf = true) (hn : (Lit.int .i64 n).wf = true) :
    Calls Try.prog 8 #[.slice ao len cap, .int .u8 x, .int .i64 n] w fun e w' => e = .returned (.bool true) ∧ Below w.heap.size w w' := LedgersTwo_of alive_yes h hok hx hn
end Go.Proofs.Ytdiabilcamomcaa
