/- Rows of bytes that come in, read; each within what can be reached. -/
import Derived.Test.YtjjppbfknjeddaaGreatDoorRows
import Derived.Test.YtjjppbfknjeddaaGreatDoorOpen
import Derived.Test.YtjjppbfknjeddaaGreatDoorLib
import Derived.Deep.Slices
namespace Go.Proofs.YtjjppbfknjeddaaGreatDoor
open Go.ChangeShapes Go.WideShapes Go.ChangeAt Go.RowKit Go.Deep
set_option linter.unusedVariables false
set_option linter.unusedSimpArgs false
/-- One row of bytes. -/
def RowB (w : World) (b o : Nat) (xs : List UInt8) : Prop := ∃ (a : Option Addr) (m c bb : Nat), w.cell? ⟨b, o, none⟩ = some (.slice a m c) ∧ Rd w bb a m c xs ∧ (0 < m → bb < w.heap.size)
def BsB (w : World) (ao : Option Addr) (n cap : Nat) (f : Nat → List UInt8) : Prop := n ≤ cap ∧ cap ≤ maxLen ∧ (0 < n → ∃ b off, ao = some ⟨b, off, none⟩ ∧ b < w.heap.size ∧ ∀ i, i < n → RowB w b (off + i) (f i))
theorem weights_of_mem {H : Type} {P : Program} {e : TypeId} {m : Nat} {d : DataW H} (hm : m ∈ d.weights P e) : ∀ {l : List (DataW H)}, d ∈ l → m ∈ DataW.weightsAll P e l
  | x :: l, h => by
    rw [DataW.weightsAll]
    rcases List.mem_cons.1 h with h | h
    · subst h; exact List.mem_append_left _ hm
    · exact List.mem_append_right _ (weights_of_mem hm h)
set_option maxRecDepth 20000 in
theorem open_bs {H : Type} {enc : TypeId × Value → H} {w : World} {held : Bool} {ao : Option Addr} {len cap : Nat} {d : DataW H} {p : List MemPlace}
    (h : DataW.Trod enc Tryz.prog w 0 (fun _ => true) held 22 (.slice ao len cap) d p) (hw : ∀ m ∈ d.weights Tryz.prog 22, m ≤ reachBytes) : ∃ f, BsB w ao len cap f ∧ ∀ i, i < len → (f i).length ≤ reachBytes := by
  obtain ⟨fuel, hf⟩ := h
  have hcells : Tryz.prog.cellsOf 42 = 1 := by kernel_rfl
  rcases open_slice Tryz.underlying22 hf with ⟨hcs, _⟩ | ⟨x, l, c, m, n, D, Pl, hcs, _, hl, hm, hmm, hx, hel⟩
  · simp [Value.cells] at hcs
    obtain ⟨rfl, rfl, rfl⟩ := hcs
    exact ⟨fun _ => [], ⟨Nat.le_refl _, Nat.zero_le _, fun h => by omega⟩, fun i hi => by omega⟩
  · simp [Value.cells] at hcs
    obtain ⟨rfl, rfl, rfl⟩ := hcs
    simp only [if_true] at hmm
    subst hmm
    rw [hcells] at hel
    have hrow : ∀ i, i < len → ∃ (c0 : Value) (xs : List UInt8) (a : Option Addr) (m c bb : Nat), w.cell? (x.add (i * 1)) = some c0 ∧ c0 = .slice a m c ∧ Rd w bb a m c xs ∧ (0 < m → bb < w.heap.size) ∧ xs.length ≤ reachBytes := by
      intro i hi
      obtain ⟨cs', h1, h2⟩ := hel i (by omega)
      obtain ⟨_, hlen, hc⟩ := World.cells?_some h1
      have hwt : ∀ m ∈ (D i).weights Tryz.prog 42, m ≤ reachBytes := fun m hm => hw m (by
        rw [(Prod.mk.inj hx).1]
        simp only [DataW.weights, Tryz.underlying22]
        exact List.mem_cons_of_mem _ (List.mem_append_left _ (weights_of_mem (d := D i) hm (List.mem_map.2 ⟨i, List.mem_range.2 (by omega), rfl⟩))))
      match cs', hlen with
      | [c0], _ =>
        rcases open_ints Tryz.underlying42 Tryz.underlying5 (by kernel_rfl) h2 with ⟨hcs, _⟩ | ⟨x1, l1, cc1, zs, hcs, _, hl1, hm1, hz, hx1, hcell1, hwz⟩
        · simp at hcs
          subst hcs
          exact ⟨_, [], none, 0, 0, 0, by simpa [Addr.add] using hc 0 (by simp), rfl, Rd.nil _ _, (fun h => by omega), Nat.zero_le _⟩
        · simp at hcs
          subst hcs
          obtain ⟨bb, bs, hr, hb⟩ := Rd.of_ints hl1 hm1 (by simpa using hz) hcell1 hwz
          have hnn : l1 ≤ reachBytes := by
            have hb1 : Tryz.prog.bytesOf 5 = 1 := by kernel_rfl
            have := hwt zs.length (by
              rw [(Prod.mk.inj hx1).1]
              simp only [DataW.weights, Tryz.underlying42, hb1]
              refine List.mem_cons.2 (.inl ?_)
              simp [lits] <;> omega)
            have hz' : zs.length = cc1 := by simpa using hz
            omega
          exact ⟨_, bs, _, _, _, bb, by simpa [Addr.add] using hc 0 (by simp), rfl, hr, (fun hp => hb (by omega)), by rw [hr.1]; exact hnn⟩
    have hch : ∃ f : Nat → List UInt8, ∀ i, i < len → ∃ (c0 : Value) (a : Option Addr) (m c bb : Nat), w.cell? (x.add (i * 1)) = some c0 ∧ c0 = .slice a m c ∧ Rd w bb a m c (f i) ∧ (0 < m → bb < w.heap.size) ∧ (f i).length ≤ reachBytes := by
      refine ⟨fun i => if h : i < len then (hrow i h).choose_spec.choose else [], fun i hi => ?_⟩
      obtain ⟨a, m, c, bb, h1⟩ := (hrow i hi).choose_spec.choose_spec
      exact ⟨_, a, m, c, bb, by simpa only [dif_pos hi] using h1⟩
    obtain ⟨f, hf⟩ := hch
    refine ⟨f, ⟨hl, hm, fun hp => ?_⟩, fun i hi => ?_⟩
    · obtain ⟨b, off, spot⟩ := x
      obtain ⟨c0, _, _, _, _, h0, _⟩ := hf 0 hp
      have hspot : spot = none := by simpa [Addr.add] using World.cell?_spot h0
      subst hspot
      refine ⟨b, off, rfl, by simpa [Addr.add] using World.block_lt_of_cell? w _ h0, fun i hi => ?_⟩
      obtain ⟨c0, a, m, c, bb, h1, rfl, h2, h3, _⟩ := hf i hi
      rw [Addr.add_lit, Nat.mul_one] at h1
      exact ⟨a, m, c, bb, h1, h2, h3⟩
    · obtain ⟨_, _, _, _, _, _, _, _, _, h4⟩ := hf i hi
      exact h4
end Go.Proofs.YtjjppbfknjeddaaGreatDoor
