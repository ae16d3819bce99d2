/- How the arguments of these statements read: 32 bytes by value; bytes; texts. -/
import Derived.Test.YtjjppbfknjeddaaGreatDoorLib
import Derived.ProofKit
import Derived.OpenShut
import Derived.ShutString
import Derived.ChangeOld
import Derived.SizedLaws
namespace Go.Proofs.YtjjppbfknjeddaaGreatDoor
open Go.ChangeShapes Go.WideShapes Go.ChangeAt Go.RowKit
set_option linter.unusedVariables false
/-- A number of kind u8, as a byte. -/
theorem byte_of_wf {z : Int} (h : (Lit.int .u8 z).wf = true) : ∃ b : UInt8, Value.int .u8 z = bv b := by
  have hb : 0 ≤ z ∧ z < 256 := by
    simp [Lit.wf, IntKind.min, IntKind.max] at h
    first | omega | (simp [IntKind.signed, IntKind.bits] at h; omega)
  refine ⟨UInt8.ofNat z.toNat, ?_⟩
  unfold bv
  simp only [UInt8.toNat_ofNat', Value.int.injEq, true_and]
  omega
theorem open_sum {H : Type} {enc : TypeId × Value → H} {P : Program} {w : World} {base : Nat} {spare : Nat → Bool} {held : Bool} {t e : TypeId} {n : Nat} (ht : P.underlying t = some (.array n e)) (he : P.underlying e = some (.int .u8)) (hct : P.cellsOf t = n) (hce : P.cellsOf e = 1)
    {r : Reach} {b0 : Nat} {v : Value} {d : DataW H} {p : List MemPlace} (hv : Value.okWide P w r b0 t v) (h : DataW.Trod enc P w base spare held t v d p) : ∃ cs : List UInt8, cs.length = n ∧ v = .agg (cs.map bv).toArray := by
  obtain ⟨cs, rfl, hsz, _⟩ : ∃ cs, v = .agg cs ∧ cs.size = P.cellsOf t ∧ Row.okWide P w r b0 t cs := by simpa [Value.okWide, ht] using hv
  rw [hct] at hsz
  obtain ⟨fuel, hf⟩ := h
  obtain ⟨xs, m, _, _, _, hxl, hel⟩ := DataW.trod_array ht hf
  rw [hce] at hel
  have hb : ∀ i, i < n → ∃ b : UInt8, cs.toList[i]? = some (bv b) := fun i hi => by
    have h1 := hel i hi
    have hi' : i < cs.toList.length := by simpa [hsz] using hi
    rw [Nat.mul_one] at h1
    have e1 : ((Value.agg cs).cells.toList.drop i).take 1 = [cs.toList[i]] := by
      simp only [Value.cells]
      rw [List.drop_eq_getElem_cons hi']
      rfl
    rw [e1, List.getElem?_eq_getElem (by omega)] at h1
    obtain ⟨z, ez, _, wz⟩ := DataW.trod_int he h1
    obtain ⟨b, hb⟩ := byte_of_wf wz
    refine ⟨b, ?_⟩
    rw [List.getElem?_eq_getElem hi', ← hb]
    have ez' : [cs.toList[i]] = [Value.int .u8 z] := by simpa using ez
    rw [List.cons.inj ez' |>.1]
  refine ⟨(List.range n).map fun i => if h : i < n then (hb i h).choose else 0, by simp, ?_⟩
  congr 1
  apply Array.ext'
  apply List.ext_getElem?
  intro i
  by_cases hi : i < n
  · rw [(hb i hi).choose_spec]
    simp [hi]
  · rw [List.getElem?_eq_none (by simp [hsz]; omega), List.getElem?_eq_none (by simp; omega)]
/-- Bytes that came in. -/
theorem open_bytes {H : Type} {enc : TypeId × Value → H} {P : Program} {w : World} {base : Nat} {held : Bool} {t e : TypeId} (ht : P.underlying t = some (.slice e)) (he : P.underlying e = some (.int .u8)) (hce : P.cellsOf e = 1)
    {ao : Option Addr} {n cap : Nat} {d : DataW H} {p : List MemPlace} (h : DataW.Trod enc P w base (fun _ => true) held t (.slice ao n cap) d p) : ∃ b bs, Rd w b ao n cap bs ∧ (0 < cap → b < w.heap.size) := by
  obtain ⟨fuel, hf⟩ := h
  rcases open_ints ht he hce hf with ⟨hcs, _⟩ | ⟨x, l, c, zs, hcs, _, hl, hm, hz, _, hcell, hwz⟩
  · simp [Value.cells] at hcs
    obtain ⟨rfl, rfl, rfl⟩ := hcs
    exact ⟨0, [], Rd.nil _ _, fun h => by omega⟩
  · simp [Value.cells] at hcs
    obtain ⟨rfl, rfl, rfl⟩ := hcs
    exact Rd.of_ints hl hm (by simpa using hz) hcell hwz
end Go.Proofs.YtjjppbfknjeddaaGreatDoor
