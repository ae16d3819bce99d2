/- How an asking (a key, a name, a number, a seal) reads. -/
import Derived.Test.YtbmopcmhokpchaaDoorSealsMade
import Derived.Test.YtbmopcmhokpchaaDoorOpen
import Derived.Test.YtbmopcmhokpchaaDoorTiedTab
import Derived.Lib.SmallJoins
namespace Go.Proofs.YtbmopcmhokpchaaDoor
open Go.ChangeShapes Go.WideShapes Go.ChangeAt Go.RowKit Go.Joins
set_option linter.unusedVariables false
theorem u64_of_wf {z : Int} (h : (Lit.int .u64 z).wf = true) : ∃ u : Nat, z = (u : Int) ∧ u < 18446744073709551616 := by
  have hb : 0 ≤ z ∧ z < 18446744073709551616 := by
    simp [Lit.wf, IntKind.min, IntKind.max] at h
    first | omega | (simp [IntKind.signed, IntKind.bits] at h; omega)
  exact ⟨z.toNat, by omega, by omega⟩
theorem u16_of_wf {z : Int} (h : (Lit.int .u16 z).wf = true) : ∃ u : Nat, z = (u : Int) ∧ u < 65536 := by
  have hb : 0 ≤ z ∧ z < 65536 := by
    simp [Lit.wf, IntKind.min, IntKind.max] at h
    first | omega | (simp [IntKind.signed, IntKind.bits] at h; omega)
  exact ⟨z.toNat, by omega, by omega⟩
theorem open_ask {H : Type} {enc : TypeId × Value → H} {w : World} {base : Nat} {spare : Nat → Bool} {held : Bool} {r : Reach} {b0 : Nat} {v : Value} {d : DataW H} {p : List MemPlace}
    (hv : Value.okWide Tryd.prog w r b0 24 v) (h : DataW.Trod enc Tryd.prog w base spare held 24 v d p) : ∃ k nm u sg, v = .agg (askCells k nm u sg) ∧ u < 18446744073709551616 := by
  have hct : Tryd.prog.cellsOf 24 = 4 := by kernel_rfl
  obtain ⟨v0, v1, v2, v3, y0, y1, y2, y3, n, rfl, _, _, t0, t1, t2, t3⟩ := open_agg4 Tryd.underlying24 (by kernel_rfl) hct hv h
  obtain ⟨s0, e0, _⟩ := DataW.trod_string Tryd.underlying9 t0
  obtain ⟨s1, e1, _⟩ := DataW.trod_string Tryd.underlying9 t1
  obtain ⟨z, e2, _, wz⟩ := DataW.trod_int Tryd.underlying22 t2
  obtain ⟨s3, e3, _⟩ := DataW.trod_string Tryd.underlying9 t3
  obtain ⟨u, rfl, hu⟩ := u64_of_wf wz
  obtain ⟨k, rfl⟩ := ba_list s0
  obtain ⟨nm, rfl⟩ := ba_list s1
  obtain ⟨sg, rfl⟩ := ba_list s3
  simp only [List.cons.injEq, and_true] at e0 e1 e2 e3
  subst e0 e1 e2 e3
  exact ⟨k, nm, u, sg, rfl, hu⟩
end Go.Proofs.YtbmopcmhokpchaaDoor
