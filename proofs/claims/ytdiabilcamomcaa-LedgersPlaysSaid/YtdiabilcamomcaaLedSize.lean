/- How great tenants are: some number; how they read when they come in. -/
import Derived.Test.YtdiabilcamomcaaLedNew
import Derived.Test.YtdiabilcamomcaaOpen
import Derived.Deep.Slices
import Derived.Deep.Strs
namespace Go.Proofs.Ytdiabilcamomcaa
open Go.ChangeShapes Go.WideShapes Go.ChangeAt Go.RowKit Go.Deep
set_option linter.unusedVariables false
/-- Some number; nothing has turned. -/
def SomeInt (e : Ending) (w w' : World) : Prop := ∃ z q, e = .returned (.int .i64 z) ∧ w' = w.drewN q
set_option maxRecDepth 20000 in
theorem TenantsSize_any {w : World} {ao : Option Addr} {n cap : Nat} {T : List Ten} (h : Tens w ao n cap T) : Calls Try.prog 13 #[.slice ao n cap] w fun e w' => SomeInt e w w' := by
  obtain ⟨hTl, hnc, hcm, hnone, hcells⟩ := h
  unfold maxLen at hcm
  have HC := Lib.hid hcells; clear hcells hnone hTl
  go_enter Try.func13, Try.ntmps13
  go_wp2
  go_loopw [4, 3] (fun i s wr => ∃ (k : Nat) (z : Int), k ≤ n ∧ i = .int .i64 k ∧ s = .int .i64 z ∧ ∃ q, wr = w.drewN q) (fun i _ _ => n - (intOf i).toNat)
  case atStart => exact ⟨0, _, by omega, rfl, rfl, 0, rfl⟩
  case round =>
    obtain ⟨k, z, hk, rfl, rfl, q, rfl⟩ := hrel
    by_cases hlt : k < n
    · by_cases hz : z ≤ 1048576
      · obtain ⟨b, off, rfl, hb, hc⟩ := HC.out (by omega)
        obtain ⟨c0, c1, c2⟩ := hc k hlt
        have k0 : (0 : Int) ≤ (k : Int) := by omega
        have k1 : (k : Int) < (n : Int) := by omega
        clear hc c2
        go_wp2
        go_quiet (fail)
        go_wp2
        go_roundw
        case rel => exact ⟨k + 1, _, by omega, by go_num, rfl, _, rfl⟩
        case measure => simp [intOf]; omega
      · go_wp2
        go_ret
        exact ⟨_, _, rfl, rfl⟩
    · go_wp2
      go_ret
      exact ⟨_, _, rfl, rfl⟩
theorem open_tens {H : Type} {enc : TypeId × Value → H} {w : World} {held : Bool} {ao : Option Addr} {len cap : Nat} {d : DataW H} {p : List MemPlace}
    (h : DataW.Trod enc Try.prog w 0 (fun _ => true) held 37 (.slice ao len cap) d p) : ∃ T, Tens w ao len cap T ∧ ∀ i, i < len → TenOk (nth T i) := by
  obtain ⟨fuel, hf⟩ := h
  have hcells : Try.prog.cellsOf 28 = 3 := by kernel_rfl
  rcases open_slice Try.underlying37 hf with ⟨hcs, _⟩ | ⟨x, l, c, m, n, D, Pl, hcs, _, hl, hm, hmm, _, hel⟩
  · simp [Value.cells] at hcs
    obtain ⟨rfl, rfl, rfl⟩ := hcs
    exact ⟨[], ⟨rfl, Nat.le_refl _, Nat.zero_le _, fun _ => rfl, fun h => by omega⟩, fun i hi => by omega⟩
  · simp [Value.cells] at hcs
    obtain ⟨rfl, rfl, rfl⟩ := hcs
    simp only [if_true] at hmm
    subst hmm
    rw [hcells] at hel
    have hcell : ∀ i, i < m → ∃ c0 c1 c2 y0 y1 y2 n', w.cell? (x.add (i * 3)) = some c0 ∧ w.cell? ((x.add (i * 3)).add 1) = some c1 ∧ w.cell? ((x.add (i * 3)).add 2) = some c2 ∧
        DataW.trod enc Try.prog w 0 (fun _ => true) held n' 9 [c0] = some y0 ∧ DataW.trod enc Try.prog w 0 (fun _ => true) held n' 9 [c1] = some y1 ∧ DataW.trod enc Try.prog w 0 (fun _ => true) held n' 3 [c2] = some y2 := by
      intro i hi
      obtain ⟨cs', h1, h2⟩ := hel i hi
      obtain ⟨_, hlen, hc⟩ := World.cells?_some h1
      obtain ⟨y0, y1, y2, n', _, _, t0, t1, t2⟩ := trod_struct3 Try.underlying28 h2
      match cs', hlen with
      | [c0, c1, c2], _ =>
        refine ⟨c0, c1, c2, y0, y1, y2, n', by simpa [Addr.add] using hc 0 (by omega), by simpa using hc 1 (by omega), by simpa using hc 2 (by omega), ?_, ?_, ?_⟩
        · have e : Try.prog.cellsOf 9 = 1 := by kernel_rfl
          rw [e] at t0; simpa using t0
        · have e : Try.prog.cellsOf 9 = 1 := by kernel_rfl
          rw [e] at t1; simpa using t1
        · have e : Try.prog.cellsOf 3 = 1 := by kernel_rfl
          rw [e] at t2; simpa using t2
    by_cases hp : 0 < m
    · obtain ⟨c0, _, _, _, _, _, _, h0, _⟩ := hcell 0 hp
      obtain ⟨b, off, spot⟩ := x
      have hspot : spot = none := by simpa [Addr.add] using World.cell?_spot h0
      subst hspot
      have hten : ∀ i, i < len → ∃ t : Ten, TenAt w b (off + i * 3) t ∧ TenOk t := by
        intro i hi
        obtain ⟨c0, c1, c2, y0, y1, y2, n', h0, h1, h2, t0, t1, t2⟩ := hcell i (by omega)
        rw [Addr.add_lit] at h0
        rw [Addr.add_lit, Addr.add_lit] at h1 h2
        obtain ⟨s0, e0, _, w0⟩ := DataW.trod_string Try.underlying9 t0
        obtain ⟨s1, e1, _, w1⟩ := DataW.trod_string Try.underlying9 t1
        obtain ⟨z, e2, _, w2⟩ := DataW.trod_int Try.underlying3 t2
        simp at e0 e1 e2
        subst e0 e1 e2
        exact ⟨⟨s0, s1, z⟩, ⟨h0, h1, h2⟩, w0, w1, w2⟩
      refine ⟨(List.range len).map fun i => if h : i < len then (hten i h).choose else tz, ⟨by simp, hl, hm, (fun h => by cases h), fun _ => ⟨b, off, rfl, by simpa [Addr.add] using World.block_lt_of_cell? w _ h0, fun i hi => ?_⟩⟩, fun i hi => ?_⟩
      · have e : nth ((List.range len).map fun i => if h : i < len then (hten i h).choose else tz) i = (hten i hi).choose := by simp [nth, List.getD, hi]
        rw [e]
        exact (hten i hi).choose_spec.1
      · have e : nth ((List.range len).map fun i => if h : i < len then (hten i h).choose else tz) i = (hten i hi).choose := by simp [nth, List.getD, hi]
        rw [e]
        exact (hten i hi).choose_spec.2
    · obtain rfl : m = 0 := by omega
      obtain rfl : len = 0 := by omega
      exact ⟨[], ⟨rfl, Nat.le_refl _, Nat.zero_le _, (fun h => by cases h), fun h => by omega⟩, fun i hi => by omega⟩
end Go.Proofs.Ytdiabilcamomcaa
