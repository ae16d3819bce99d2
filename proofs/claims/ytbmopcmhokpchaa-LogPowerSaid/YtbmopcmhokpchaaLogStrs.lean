/- Texts that come in, as a row: how they read. -/
import Derived.Test.YtbmopcmhokpchaaOpen
import Derived.Test.YtbmopcmhokpchaaLogMem
import Derived.Deep.Slices
namespace Go.Proofs.Ytbmopcmhokpchaa
open Go.ChangeShapes Go.WideShapes Go.ChangeAt Go.RowKit Go.Deep
set_option linter.unusedVariables false
set_option linter.unusedSimpArgs false
/-- A text as a cell. -/
def tv (bs : List UInt8) : Value := .string ⟨bs.toArray⟩
def Strs (w : World) (ao : Option Addr) (n cap : Nat) (f : Nat → List UInt8) : Prop :=
  n ≤ cap ∧ cap ≤ maxLen ∧ (∀ i, i < n → (f i).length ≤ maxLen) ∧ (0 < n → ∃ b off, ao = some ⟨b, off, none⟩ ∧ b < w.heap.size ∧ ∀ i, i < n → w.cell? ⟨b, off + i, none⟩ = some (tv (f i)))
theorem weights_of_mem {H : Type} {P : Program} {e : TypeId} {m : Nat} {d : DataW H} (hm : m ∈ d.weights P e) : ∀ {l : List (DataW H)}, d ∈ l → m ∈ DataW.weightsAll P e l
  | x :: l, h => by
    rw [DataW.weightsAll]
    rcases List.mem_cons.1 h with h | h
    · subst h; exact List.mem_append_left _ hm
    · exact List.mem_append_right _ (weights_of_mem hm h)
theorem open_strs {H : Type} {enc : TypeId × Value → H} {w : World} {held : Bool} {ao : Option Addr} {len cap : Nat} {d : DataW H} {p : List MemPlace}
    (h : DataW.Trod enc Try.prog w 0 (fun _ => true) held 49 (.slice ao len cap) d p) : ∃ f, Strs w ao len cap f ∧ ((∀ m ∈ d.weights Try.prog 49, m ≤ reachBytes) → ∀ i, i < len → (f i).length ≤ reachBytes) := by
  obtain ⟨fuel, hf⟩ := h
  have hcells : Try.prog.cellsOf 9 = 1 := by kernel_rfl
  rcases open_slice Try.underlying49 hf with ⟨hcs, _⟩ | ⟨x, l, c, m, n, D, Pl, hcs, _, hl, hm, hmm, hx, hel⟩
  · simp [Value.cells] at hcs
    obtain ⟨rfl, rfl, rfl⟩ := hcs
    exact ⟨fun _ => [], ⟨Nat.le_refl _, Nat.zero_le _, fun i hi => by omega, fun h => by omega⟩, fun _ i hi => by omega⟩
  · simp [Value.cells] at hcs
    obtain ⟨rfl, rfl, rfl⟩ := hcs
    simp only [if_true] at hmm
    subst hmm
    rw [hcells] at hel
    have hrow : ∀ i, i < len → ∃ bs : List UInt8, w.cell? (x.add (i * 1)) = some (tv bs) ∧ bs.length ≤ maxLen ∧ D i = .lit (.string bs) := by
      intro i hi
      obtain ⟨cs', h1, h2⟩ := hel i (by omega)
      obtain ⟨_, hlen, hc⟩ := World.cells?_some h1
      match cs', hlen with
      | [c0], _ =>
        obtain ⟨s0, e0, e1, w0⟩ := DataW.trod_string Try.underlying9 h2
        simp at e0
        subst e0
        obtain ⟨A⟩ := s0
        exact ⟨A.toList, by simpa [Addr.add, tv] using hc 0 (by simp), by simpa [ByteArray.size] using w0, (Prod.mk.inj e1).1⟩
    have hch : ∃ f : Nat → List UInt8, ∀ i, i < len → w.cell? (x.add (i * 1)) = some (tv (f i)) ∧ (f i).length ≤ maxLen ∧ D i = .lit (.string (f i)) := by
      refine ⟨fun i => if h : i < len then (hrow i h).choose else [], fun i hi => ?_⟩
      have := (hrow i hi).choose_spec
      simpa only [dif_pos hi] using this
    obtain ⟨f, hf⟩ := hch
    refine ⟨f, ⟨hl, hm, fun i hi => (hf i hi).2.1, fun hp => ?_⟩, fun hw i hi => hw _ ?_⟩
    · obtain ⟨b, off, spot⟩ := x
      obtain ⟨h0, _⟩ := hf 0 hp
      have hspot : spot = none := by simpa [Addr.add] using World.cell?_spot h0
      subst hspot
      refine ⟨b, off, rfl, by simpa [Addr.add] using World.block_lt_of_cell? w _ h0, fun i hi => ?_⟩
      obtain ⟨h1, _⟩ := hf i hi
      rw [Addr.add_lit, Nat.mul_one] at h1
      exact h1
    · have hd := (Prod.mk.inj hx).1
      rw [hd]
      have hmem : D i ∈ (List.range len).map D := List.mem_map.2 ⟨i, List.mem_range.2 hi, rfl⟩
      have hwi : (f i).length ∈ (D i).weights Try.prog 9 := by rw [(hf i hi).2.2]; simp [DataW.weights]
      simp only [DataW.weights, Try.underlying49]
      exact List.mem_cons_of_mem _ (List.mem_append_left _ (weights_of_mem hwi hmem))
end Go.Proofs.Ytbmopcmhokpchaa
