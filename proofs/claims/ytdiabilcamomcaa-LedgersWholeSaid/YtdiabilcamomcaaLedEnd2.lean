/- What a tenant spent, and what is left: with the fixed answers. -/
import Derived.Test.YtdiabilcamomcaaLedAlive
import Derived.Test.YtdiabilcamomcaaLedWhole
namespace Go.Proofs.Ytdiabilcamomcaa
open Go.RowKit
theorem LedgersWhole_any {w : World} {T : List Ten} {ao : Option Addr} {len cap : Nat} (h : Tens w ao len cap T) (hok : ∀ i, i < len → TenOk (nth T i)) {x : Int} (hx : (Lit.int .u8 x).wf = true) {so : Option Addr} {sn scap : Nat} {f : Nat → Int} (hs : Nums w so sn scap f) :
    Calls Try.prog 5 #[.slice ao len cap, .int .u8 x, .slice so sn scap] w fun e w' => e = .returned (.bool true) ∧ Below w.heap.size w w' := LedgersWhole_of (fun w => alive_any w) h hok hx hs
end Go.Proofs.Ytdiabilcamomcaa
