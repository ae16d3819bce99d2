/- How a list of acts on a disk reads; each act's bytes within what can be reached. -/
import Derived.Test.YtbmopcmhokpchaaGreatDoorRows
import Derived.Test.YtbmopcmhokpchaaGreatDoorOpen
import Derived.Test.YtbmopcmhokpchaaGreatDoorLib
import Derived.Deep.Slices
import Derived.Deep.Strs
namespace Go.Proofs.YtbmopcmhokpchaaGreatDoor
open Go.ChangeShapes Go.WideShapes Go.ChangeAt Go.RowKit Go.Deep
set_option linter.unusedVariables false
/-- An act: its kind, its bytes, its number, in three cells. -/
def ActAt (w : World) (b o : Nat) : Prop := ∃ (kd z : Int) (a : Option Addr) (n c bb : Nat) (bs : List UInt8), w.cell? ⟨b, o, none⟩ = some (.int .u8 kd) ∧ 0 ≤ kd ∧ kd ≤ 255 ∧ w.cell? ⟨b, o + 1, none⟩ = some (.slice a n c) ∧ w.cell? ⟨b, o + 2, none⟩ = some (.int .i64 z) ∧ (Lit.int .i64 z).wf = true ∧ Rd w bb a n c bs ∧ (0 < c → bb < w.heap.size) ∧ n ≤ reachBytes
def Acts (w : World) (ao : Option Addr) (len cap : Nat) : Prop := len ≤ cap ∧ cap ≤ maxLen ∧ (0 < cap → ∃ b off, ao = some ⟨b, off, none⟩ ∧ b < w.heap.size ∧ ∀ i, i < len → ActAt w b (off + i * 3))
theorem weights_of_mem {H : Type} {P : Program} {e : TypeId} {m : Nat} {d : DataW H} (hm : m ∈ d.weights P e) : ∀ {l : List (DataW H)}, d ∈ l → m ∈ DataW.weightsAll P e l
  | x :: l, h => by
    rw [DataW.weightsAll]
    rcases List.mem_cons.1 h with h | h
    · subst h; exact List.mem_append_left _ hm
    · exact List.mem_append_right _ (weights_of_mem hm h)
set_option maxRecDepth 20000 in
theorem open_acts {H : Type} {enc : TypeId × Value → H} {w : World} {held : Bool} {ao : Option Addr} {len cap : Nat} {d : DataW H} {p : List MemPlace}
    (h : DataW.Trod enc Tryz.prog w 0 (fun _ => true) held 56 (.slice ao len cap) d p) (hw : ∀ m ∈ d.weights Tryz.prog 56, m ≤ reachBytes) : Acts w ao len cap := by
  obtain ⟨fuel, hf⟩ := h
  have hcells : Tryz.prog.cellsOf 62 = 3 := by kernel_rfl
  rcases open_slice Tryz.underlying56 hf with ⟨hcs, _⟩ | ⟨x, l, c, m, n, D, Pl, hcs, _, hl, hm, hmm, hx, hel⟩
  · simp [Value.cells] at hcs
    obtain ⟨rfl, rfl, rfl⟩ := hcs
    exact ⟨Nat.le_refl _, Nat.zero_le _, fun h => by omega⟩
  · simp [Value.cells] at hcs
    obtain ⟨rfl, rfl, rfl⟩ := hcs
    refine ⟨hl, hm, fun hp => ?_⟩
    simp only [if_true] at hmm
    subst hmm
    rw [hcells] at hel
    have hcell : ∀ i, i < m → ∃ c0 c1 c2 y0 y1 y2 n', w.cell? (x.add (i * 3)) = some c0 ∧ w.cell? ((x.add (i * 3)).add 1) = some c1 ∧ w.cell? ((x.add (i * 3)).add 2) = some c2 ∧
        DataW.trod enc Tryz.prog w 0 (fun _ => true) held n' 5 [c0] = some y0 ∧ DataW.trod enc Tryz.prog w 0 (fun _ => true) held n' 22 [c1] = some y1 ∧ DataW.trod enc Tryz.prog w 0 (fun _ => true) held n' 3 [c2] = some y2 ∧ D i = .agg [y0.1, y1.1, y2.1] := by
      intro i hi
      obtain ⟨cs', h1, h2⟩ := hel i hi
      obtain ⟨_, hlen, hc⟩ := World.cells?_some h1
      obtain ⟨y0, y1, y2, n', hD, _, t0, t1, t2⟩ := trod_struct3 Tryz.underlying62 h2
      match cs', hlen with
      | [c0, c1, c2], _ =>
        refine ⟨c0, c1, c2, y0, y1, y2, n', by simpa [Addr.add] using hc 0 (by omega), by simpa using hc 1 (by omega), by simpa using hc 2 (by omega), ?_, ?_, ?_, (Prod.mk.inj hD).1⟩
        · have e : Tryz.prog.cellsOf 5 = 1 := by kernel_rfl
          rw [e] at t0; simpa using t0
        · have e : Tryz.prog.cellsOf 22 = 1 := by kernel_rfl
          rw [e] at t1; simpa using t1
        · have e : Tryz.prog.cellsOf 3 = 1 := by kernel_rfl
          rw [e] at t2; simpa using t2
    obtain ⟨c0, _, _, _, _, _, _, h0, _⟩ := hcell 0 hp
    obtain ⟨b, off, spot⟩ := x
    have hspot : spot = none := by simpa [Addr.add] using World.cell?_spot h0
    subst hspot
    refine ⟨b, off, rfl, by simpa [Addr.add] using World.block_lt_of_cell? w _ h0, fun i hi => ?_⟩
    obtain ⟨c0, c1, c2, y0, y1, y2, n', h0, h1, h2, t0, t1, t2, hDi⟩ := hcell i (by omega)
    have hwt : ∀ m ∈ y1.1.weights Tryz.prog 22, m ≤ reachBytes := fun m hm => hw m (by
      rw [(Prod.mk.inj hx).1]
      simp only [DataW.weights, Tryz.underlying56]
      refine List.mem_cons_of_mem _ (List.mem_append_left _ (weights_of_mem (d := D i) ?_ (List.mem_map.2 ⟨i, List.mem_range.2 (by omega), rfl⟩)))
      rw [hDi]
      simp only [DataW.weights, Tryz.underlying62, DataW.weightsEach, List.map_cons, List.map_nil]
      exact List.mem_append_right _ (List.mem_append_left _ hm))
    rw [Addr.add_lit] at h0
    rw [Addr.add_lit, Addr.add_lit] at h1 h2
    obtain ⟨kd, e0, _, w0⟩ := DataW.trod_int Tryz.underlying5 t0
    obtain ⟨z, e2, _, w2⟩ := DataW.trod_int Tryz.underlying3 t2
    simp at e0 e2
    subst e0 e2
    have hkd : 0 ≤ kd ∧ kd ≤ 255 := by
      simp [Lit.wf, IntKind.min, IntKind.max] at w0
      first | omega | (simp [IntKind.signed, IntKind.bits] at w0; omega)
    rcases open_ints Tryz.underlying22 Tryz.underlying5 (by kernel_rfl) t1 with ⟨hcs, _⟩ | ⟨x1, l1, cc1, zs, hcs, _, hl1, hm1, hz, hx1, hcell1, hwz⟩
    · simp at hcs
      subst hcs
      exact ⟨kd, z, none, 0, 0, 0, [], h0, hkd.1, hkd.2, h1, h2, w2, Rd.nil _ _, (fun h => by omega), Nat.zero_le _⟩
    · simp at hcs
      subst hcs
      obtain ⟨bb, bs, hr, hb⟩ := Rd.of_ints hl1 hm1 (by simpa using hz) hcell1 hwz
      have hnn : l1 ≤ reachBytes := by
        have hb1 : Tryz.prog.bytesOf 5 = 1 := by kernel_rfl
        have := hwt zs.length (by
          rw [hx1]
          simp only [DataW.weights, Tryz.underlying22, hb1]
          refine List.mem_cons.2 (.inl ?_)
          simp [lits] <;> omega)
        have hz' : zs.length = cc1 := by simpa using hz
        omega
      exact ⟨kd, z, _, _, _, bb, bs, h0, hkd.1, hkd.2, h1, h2, w2, hr, hb, hnn⟩
end Go.Proofs.YtbmopcmhokpchaaGreatDoor
