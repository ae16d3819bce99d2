/- How a list of acts on a disk reads. -/
import Derived.Test.YtbmopcmhokpchaaRows
import Derived.Test.YtbmopcmhokpchaaOpen
import Derived.Deep.Slices
import Derived.Deep.Strs
namespace Go.Proofs.Ytbmopcmhokpchaa
open Go.ChangeShapes Go.WideShapes Go.ChangeAt Go.RowKit Go.Deep
set_option linter.unusedVariables false
/-- An act: its kind, its bytes, its number, in three cells. -/
def ActAt (w : World) (b o : Nat) : Prop := ∃ (kd z : Int) (a : Option Addr) (n c bb : Nat) (bs : List UInt8), w.cell? ⟨b, o, none⟩ = some (.int .u8 kd) ∧ 0 ≤ kd ∧ kd ≤ 255 ∧ w.cell? ⟨b, o + 1, none⟩ = some (.slice a n c) ∧ w.cell? ⟨b, o + 2, none⟩ = some (.int .i64 z) ∧ (Lit.int .i64 z).wf = true ∧ Rd w bb a n c bs ∧ (0 < c → bb < w.heap.size)
def Acts (w : World) (ao : Option Addr) (len cap : Nat) : Prop := len ≤ cap ∧ cap ≤ maxLen ∧ (0 < cap → ∃ b off, ao = some ⟨b, off, none⟩ ∧ b < w.heap.size ∧ ∀ i, i < len → ActAt w b (off + i * 3))
theorem open_acts {H : Type} {enc : TypeId × Value → H} {w : World} {held : Bool} {ao : Option Addr} {len cap : Nat} {d : DataW H} {p : List MemPlace}
    (h : DataW.Trod enc Try.prog w 0 (fun _ => true) held 25 (.slice ao len cap) d p) : Acts w ao len cap := by
  obtain ⟨fuel, hf⟩ := h
  have hcells : Try.prog.cellsOf 35 = 3 := by kernel_rfl
  rcases open_slice Try.underlying25 hf with ⟨hcs, _⟩ | ⟨x, l, c, m, n, D, Pl, hcs, _, hl, hm, hmm, _, hel⟩
  · simp [Value.cells] at hcs
    obtain ⟨rfl, rfl, rfl⟩ := hcs
    exact ⟨Nat.le_refl _, Nat.zero_le _, fun h => by omega⟩
  · simp [Value.cells] at hcs
    obtain ⟨rfl, rfl, rfl⟩ := hcs
    refine ⟨hl, hm, fun hp => ?_⟩
    simp only [if_true] at hmm
    subst hmm
    rw [hcells] at hel
    have hcell : ∀ i, i < m → ∃ c0 c1 c2 y0 y1 y2 n', w.cell? (x.add (i * 3)) = some c0 ∧ w.cell? ((x.add (i * 3)).add 1) = some c1 ∧ w.cell? ((x.add (i * 3)).add 2) = some c2 ∧
        DataW.trod enc Try.prog w 0 (fun _ => true) held n' 5 [c0] = some y0 ∧ DataW.trod enc Try.prog w 0 (fun _ => true) held n' 33 [c1] = some y1 ∧ DataW.trod enc Try.prog w 0 (fun _ => true) held n' 3 [c2] = some y2 := by
      intro i hi
      obtain ⟨cs', h1, h2⟩ := hel i hi
      obtain ⟨_, hlen, hc⟩ := World.cells?_some h1
      obtain ⟨y0, y1, y2, n', _, _, t0, t1, t2⟩ := trod_struct3 Try.underlying35 h2
      match cs', hlen with
      | [c0, c1, c2], _ =>
        refine ⟨c0, c1, c2, y0, y1, y2, n', by simpa [Addr.add] using hc 0 (by omega), by simpa using hc 1 (by omega), by simpa using hc 2 (by omega), ?_, ?_, ?_⟩
        · have e : Try.prog.cellsOf 5 = 1 := by kernel_rfl
          rw [e] at t0; simpa using t0
        · have e : Try.prog.cellsOf 33 = 1 := by kernel_rfl
          rw [e] at t1; simpa using t1
        · have e : Try.prog.cellsOf 3 = 1 := by kernel_rfl
          rw [e] at t2; simpa using t2
    obtain ⟨c0, _, _, _, _, _, _, h0, _⟩ := hcell 0 hp
    obtain ⟨b, off, spot⟩ := x
    have hspot : spot = none := by simpa [Addr.add] using World.cell?_spot h0
    subst hspot
    refine ⟨b, off, rfl, by simpa [Addr.add] using World.block_lt_of_cell? w _ h0, fun i hi => ?_⟩
    obtain ⟨c0, c1, c2, y0, y1, y2, n', h0, h1, h2, t0, t1, t2⟩ := hcell i (by omega)
    rw [Addr.add_lit] at h0
    rw [Addr.add_lit, Addr.add_lit] at h1 h2
    obtain ⟨kd, e0, _, w0⟩ := DataW.trod_int Try.underlying5 t0
    obtain ⟨z, e2, _, w2⟩ := DataW.trod_int Try.underlying3 t2
    simp at e0 e2
    subst e0 e2
    have hkd : 0 ≤ kd ∧ kd ≤ 255 := by
      simp [Lit.wf, IntKind.min, IntKind.max] at w0
      first | omega | (simp [IntKind.signed, IntKind.bits] at w0; omega)
    rcases open_ints Try.underlying33 Try.underlying5 (by kernel_rfl) t1 with ⟨hcs, _⟩ | ⟨x1, l1, cc1, zs, hcs, _, hl1, hm1, hz, _, hcell1, hwz⟩
    · simp at hcs
      subst hcs
      exact ⟨kd, z, none, 0, 0, 0, [], h0, hkd.1, hkd.2, h1, h2, w2, Rd.nil _ _, fun h => by omega⟩
    · simp at hcs
      subst hcs
      obtain ⟨bb, bs, hr, hb⟩ := Rd.of_ints hl1 hm1 (by simpa using hz) hcell1 hwz
      exact ⟨kd, z, _, _, _, bb, bs, h0, hkd.1, hkd.2, h1, h2, w2, hr, hb⟩
end Go.Proofs.Ytbmopcmhokpchaa
