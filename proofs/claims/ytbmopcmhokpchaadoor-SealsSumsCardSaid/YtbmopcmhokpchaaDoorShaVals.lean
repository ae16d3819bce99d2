/- Some sums that the document fixes, reckoned by the kernel; 'alive' of the sums' statements. -/
import Derived.Test.YtbmopcmhokpchaaDoorShaKeyed
import Derived.Test.YtbmopcmhokpchaaDoorHex
import Derived.Lib.SlBytesConst
namespace Go.Proofs.YtbmopcmhokpchaaDoor
open Go.RowKit
set_option linter.unusedVariables false
attribute [local go_sem ↓] Go.wp_at_zero Go.wp_at_succ
theorem val_nil : hexs (sha []) = [101, 51, 98, 48, 99, 52, 52, 50, 57, 56, 102, 99, 49, 99, 49, 52, 57, 97, 102, 98, 102, 52, 99, 56, 57, 57, 54, 102, 98, 57, 50, 52, 50, 55, 97, 101, 52, 49, 101, 52, 54, 52, 57, 98, 57, 51, 52, 99, 97, 52, 57, 53, 57, 57, 49, 98, 55, 56, 53, 50, 98, 56, 53, 53] := by decide +kernel
theorem val_abc : hexs (sha [97, 98, 99]) = [98, 97, 55, 56, 49, 54, 98, 102, 56, 102, 48, 49, 99, 102, 101, 97, 52, 49, 52, 49, 52, 48, 100, 101, 53, 100, 97, 101, 50, 50, 50, 51, 98, 48, 48, 51, 54, 49, 97, 51, 57, 54, 49, 55, 55, 97, 57, 99, 98, 52, 49, 48, 102, 102, 54, 49, 102, 50, 48, 48, 49, 53, 97, 100] := by decide +kernel
theorem val_jefe : hexs (hmac [74, 101, 102, 101] [119, 104, 97, 116, 32, 100, 111, 32, 121, 97, 32, 119, 97, 110, 116, 32, 102, 111, 114, 32, 110, 111, 116, 104, 105, 110, 103, 63]) = [53, 98, 100, 99, 99, 49, 52, 54, 98, 102, 54, 48, 55, 53, 52, 101, 54, 97, 48, 52, 50, 52, 50, 54, 48, 56, 57, 53, 55, 53, 99, 55, 53, 97, 48, 48, 51, 102, 48, 56, 57, 100, 50, 55, 51, 57, 56, 51, 57, 100, 101, 99, 53, 56, 98, 57, 54, 52, 101, 99, 51, 56, 52, 51] := by decide +kernel
theorem Text_of {cs ds : List UInt8} (hl : cs.length = 32) (h : hexs cs = ds) (w : World) : Calls Tryd.prog 12 #[.agg (cs.map bv).toArray] w fun e w' => e = .returned (.string ⟨ds.toArray⟩) ∧ Chg Non w w' := by
  subst h; exact Text_any cs hl w
theorem Rd.lit {w : World} {g : Nat} {e : TypeId} {fr : Nat × Nat} {cs : Array Value} (hg : w.heap[g]? = some (.cells cs e fr)) {bs : List UInt8} (h : cs = (bs.map bv).toArray) {n : Nat} (hn : bs.length = n) (hm : n ≤ maxLen) : Rd w g (some ⟨g, 0, none⟩) n n bs := by
  subst h; exact Rd.of_block hg hn hm
end Go.Proofs.YtbmopcmhokpchaaDoor
