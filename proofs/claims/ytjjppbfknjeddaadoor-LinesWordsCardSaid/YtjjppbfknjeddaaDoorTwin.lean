/- Contracts of the law's helpers on bytes: SameBytes, TwinBytes, LeftBytes. -/
import Derived.Test.YtjjppbfknjeddaaDoorRows
import Derived.Test.YtjjppbfknjeddaaDoorLib
import Derived.Deep.RegionHeld3
import Derived.Deep.DrawnRows
import Derived.WalkLawsBesides
import Derived.WalkSpells
namespace Go.Proofs.YtjjppbfknjeddaaDoor
open Go.RowKit
set_option linter.unusedVariables false
attribute [local go_sem ↓] Go.wp_at_zero Go.wp_at_succ

/-- After k rounds the first k bytes of both are the same. -/
theorem take_succ_eq {xs bs : List UInt8} {k : Nat} (hl : xs.length = bs.length) (hk : k < xs.length) (h : xs.take k = bs.take k) : (xs.take (k + 1) = bs.take (k + 1)) ↔ xs.getD k 0 = bs.getD k 0 := by
  rw [List.take_succ_eq_append_getElem hk, List.take_succ_eq_append_getElem (l := bs) (by omega), h]
  have e1 : xs.getD k 0 = xs[k] := by simp [List.getD, hk]
  have e2 : bs.getD k 0 = bs[k] := by simp [List.getD, show k < bs.length by omega]
  rw [e1, e2]
  exact ⟨fun e => by simpa using List.append_cancel_left e, fun e => by rw [e]⟩
theorem ne_of_getD {xs bs : List UInt8} {k : Nat} (h : xs.getD k 0 ≠ bs.getD k 0) : xs ≠ bs := fun e => h (by rw [e])
theorem Tryd.info_u8 : (Tryd.prog.info? 5).map (fun i => (i.zero, i.size, i.bytes)) = some (some (.int .u8 0), 1, 1) := by kernel_rfl
/-- A twin of bytes: new memory, one byte 77 behind the last. -/
def IsTwin (w : World) (B : Nat) (g n cap : Nat) (bs : List UInt8) : Prop := Own w B 5 1 (some ⟨g, 0, none⟩) (n + 1) cap ((bs ++ [77]).map bv)
end Go.Proofs.YtjjppbfknjeddaaDoor
