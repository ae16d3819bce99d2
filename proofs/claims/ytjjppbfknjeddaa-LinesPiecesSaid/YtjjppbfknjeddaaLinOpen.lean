/- How numbers of 16 bits read. -/
import Derived.Test.YtjjppbfknjeddaaOpen
import Derived.Test.YtjjppbfknjeddaaLinesPieces
namespace Go.Proofs.Ytjjppbfknjeddaa
open Go.ChangeShapes Go.WideShapes Go.ChangeAt Go.RowKit
set_option linter.unusedVariables false
theorem open_n16 {H : Type} {enc : TypeId × Value → H} {w : World} {held : Bool} {ao : Option Addr} {n cap : Nat} {d : DataW H} {pl : List MemPlace}
    (h : DataW.Trod enc Try.prog w 0 (fun _ => true) held 23 (.slice ao n cap) d pl) : ∃ f, N16 w ao n cap f := by
  obtain ⟨fuel, hf⟩ := h
  rcases open_ints Try.underlying23 Try.underlying32 (by kernel_rfl) hf with ⟨hcs, _⟩ | ⟨x, l, c, zs, hcs, _, hl, hm, hz, _, hcell, hwz⟩
  · simp [Value.cells] at hcs
    obtain ⟨rfl, rfl, rfl⟩ := hcs
    exact ⟨fun _ => 0, Nat.le_refl _, Nat.zero_le _, fun i hi => by omega, fun h => by omega⟩
  · simp [Value.cells] at hcs
    obtain ⟨rfl, rfl, rfl⟩ := hcs
    simp only [if_true] at hz
    have hb : ∀ z ∈ zs, 0 ≤ z ∧ z < 65536 := fun z hz => by
      have := hwz z hz
      simp [Lit.wf, IntKind.min, IntKind.max] at this
      first | omega | (simp [IntKind.signed, IntKind.bits] at this; omega)
    have hg : ∀ i, i < n → 0 ≤ zs.getD i 0 ∧ zs.getD i 0 < 65536 := fun i hi => hb _ (by simp [List.getD, show i < zs.length by omega])
    refine ⟨fun i => (zs.getD i 0).toNat, hl, hm, fun i hi => by have := hg i hi; show (zs.getD i 0).toNat < 65536; omega, fun hp => ?_⟩
    obtain ⟨b, off, spot⟩ := x
    have h0 := hcell 0 (by omega)
    have hspot : spot = none := by simpa [Addr.add] using World.cell?_spot h0
    subst hspot
    refine ⟨b, off, rfl, by simpa [Addr.add] using World.block_lt_of_cell? w _ h0, fun i hi => ?_⟩
    have := hcell i (by omega)
    rw [Addr.add_lit] at this
    rw [this]
    have := hg i hi
    show some (Value.int .u16 (zs.getD i 0)) = some (Value.int .u16 (((zs.getD i 0).toNat : Nat) : Int))
    rw [Int.toNat_of_nonneg this.1]
end Go.Proofs.Ytjjppbfknjeddaa
