/- The law's 'sizes': too much altogether, or each piece is small. -/
import Derived.Test.YtjjppbfknjeddaaGreatDoorPutsOpen
import Derived.Test.YtjjppbfknjeddaaGreatDoorTwin
import Derived.Deep.RegionLaw
namespace Go.Proofs.YtjjppbfknjeddaaGreatDoor
open Go.RowKit
set_option linter.unusedVariables false
set_option linter.unusedSimpArgs false
attribute [local go_sem ↓] Go.wp_at_zero Go.wp_at_succ
/-- The pieces' lengths, one more each. -/
def sumTo (f : Nat → List UInt8) : Nat → Nat
  | 0 => 0
  | i + 1 => sumTo f i + (1 + (f i).length)
theorem sumTo_le (f : Nat → List UInt8) : ∀ n, n ≤ sumTo f n
  | 0 => Nat.le_refl _
  | n + 1 => by have := sumTo_le f n; unfold sumTo; omega
theorem sumTo_item (f : Nat → List UInt8) : ∀ n i, i < n → (f i).length ≤ sumTo f n
  | n + 1, i, h => by
    unfold sumTo
    by_cases e : i = n
    · subst e; omega
    · have := sumTo_item f n i (by omega); omega
/-- What the law's 'sizes' answers: z. -/
def SizesE (f : Nat → List UInt8) (len : Nat) (e : Ending) : Prop := ∃ z : Nat, e = .returned (.int .i64 (z : Int)) ∧ (300000 < z ∨ (z ≤ 300000 ∧ len ≤ 300000 ∧ ∀ i, i < len → (f i).length ≤ 300000))
set_option maxRecDepth 40000 in
set_option maxHeartbeats 1000000 in
theorem sizes_any {w : World} {ao : Option Addr} {len cap : Nat} {f : Nat → List UInt8} (h : BsB w ao len cap f) (hw : ∀ i, i < len → (f i).length ≤ reachBytes) :
    Calls Tryz.prog 4 #[.slice ao len cap] w fun e w' => SizesE f len e ∧ ∃ q, w' = w.drewN q := by
  have hle := h.1
  have hm := h.2.1
  unfold maxLen at hm
  have H := Lib.hid h.2.2
  have HW := Lib.hid hw
  clear h hw
  go_enter Tryz.func4, Tryz.ntmps4
  go_wp2_with fail
  go_loopw [3, 4] (fun s i wr => ∃ k z : Nat, k ≤ len ∧ s = .int .i64 (z : Int) ∧ i = .int .i64 (k : Int) ∧ sumTo f k = z ∧ z ≤ 2000000 + reachBytes ∧ ∃ q, wr = w.drewN q) (fun _ i _ => len - (intOf i).toNat)
  case atStart => exact ⟨0, 0, by omega, rfl, rfl, rfl, by omega, 0, rfl⟩
  case round =>
    obtain ⟨k, z, hk, rfl, rfl, hs, hz, q, rfl⟩ := hrel
    have HS := Lib.hid hs
    clear hs
    unfold reachBytes at hz
    by_cases hlt : k < len ∧ z ≤ 1000000
    · obtain ⟨hlt, hz2⟩ := hlt
      obtain ⟨b, off, rfl, hb, hA⟩ := H.out (by omega)
      obtain ⟨a, m, c, bb, h1, h2, h3⟩ := hA k hlt
      have hmr : m ≤ reachBytes := by have := HW.out k hlt; rw [h2.1] at this; exact this
      have HN : Hid (sumTo f (k + 1) = z + 1 + m) := Lib.hid (by unfold sumTo; rw [HS.out, h2.1]; omega)
      unfold reachBytes at hmr
      have k0 : (0 : Int) ≤ (k : Int) := by omega
      have k1 : (k : Int) < (len : Int) := by omega
      have z1 : (z : Int) ≤ 1000000 := by omega
      clear hA h2 h3
      go_wp2_with fail
      go_roundw
      case rel => exact ⟨k + 1, z + 1 + m, by omega, by go_num, by go_num, HN.out, by unfold reachBytes; omega, _, rfl⟩
      case measure => simp [intOf]; omega
    · have hcase : (¬ (k : Int) < (len : Int)) ∨ ((k : Int) < (len : Int) ∧ ¬ (z : Int) ≤ 1000000) := by omega
      have FIN : Hid (300000 < z ∨ (z ≤ 300000 ∧ len ≤ 300000 ∧ ∀ i, i < len → (f i).length ≤ 300000)) := Lib.hid (by
        by_cases e : 300000 < z
        · exact .inl e
        · have hkl : k = len := by omega
          subst hkl
          have h1 := HS.out
          have h2 := sumTo_le f k
          refine .inr ⟨by omega, by omega, fun i hi => ?_⟩
          have := sumTo_item f k i hi
          omega)
      clear hlt
      rcases hcase with k1 | ⟨k1, z1⟩
      · go_wp2_with fail
        go_ret
        exact ⟨⟨z, rfl, FIN.out⟩, _, rfl⟩
      · have k0 : (0 : Int) ≤ (k : Int) := by omega
        go_wp2_with fail
        go_ret
        exact ⟨⟨z, rfl, FIN.out⟩, _, rfl⟩
end Go.Proofs.YtjjppbfknjeddaaGreatDoor
