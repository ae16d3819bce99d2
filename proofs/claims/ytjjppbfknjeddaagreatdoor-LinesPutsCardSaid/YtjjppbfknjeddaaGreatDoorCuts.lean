/- Bytes cut out of bytes: 's[k:]', 's[:k]', 's[i:k]': what the cut is, and how it reads. -/
import Derived.Test.YtjjppbfknjeddaaGreatDoorLib
namespace Go.Proofs.YtjjppbfknjeddaaGreatDoor
open Go.RowKit
set_option linter.unusedVariables false
variable {P : Program} {w : World} {t : TypeId} {b : Nat} {ao : Option Addr} {n cap : Nat} {bs : List UInt8}
theorem run_sizeOf {e : TypeId} {s : Nat} (h : (P.info? e).map (·.size) = some s) (w : World) : (sizeOf e).run P w = .ok s w := by
  obtain ⟨i, hi, rfl⟩ := Option.map_eq_some_iff.1 h
  simp [sizeOf, typeInfo, hi]
theorem Rd.cutAt (h : Rd w b ao n cap bs) {k m : Nat} (hk : k ≤ m) (hm : m ≤ n) : Rd w b (if cap = k then ao else ao.map (·.add (k * 1))) (m - k) (cap - k) ((bs.drop k).take (m - k)) := by
  obtain ⟨h1, h2, h3, h4, h5⟩ := h
  by_cases hp : 0 < cap
  · obtain ⟨off, rfl, hc⟩ := h5 hp
    by_cases e : cap = k
    · rw [if_pos e]
      refine ⟨by simp; omega, by omega, by omega, (fun h => by cases h), fun h => by omega⟩
    · rw [if_neg e]
      refine ⟨by simp; omega, by omega, by omega, (fun h => by cases h), fun _ => ⟨off + k, by simp [Addr.add], fun i hi => ?_⟩⟩
      rw [Nat.add_assoc, hc (k + i) (by omega)]
      simp only [List.getD, List.getElem?_take, if_pos hi, List.getElem?_drop]
  · have hc : cap = 0 := by omega
    subst hc
    refine ⟨by simp; omega, by omega, by omega, fun _ => by omega, fun h => by omega⟩
theorem Rd.from_ (h : Rd w b ao n cap bs) (ht : P.underlying t = some (.slice (P.elem t))) (hs : (P.info? (P.elem t)).map (·.size) = some 1) (kd : IntKind) {k : Nat} (hk : k ≤ n) :
    ∃ ao', (∀ w', (Instr.slice t (.slice ao n cap) (some (.int kd (k : Int))) none none).run P w' = .ok (.slice ao' (n - k) (cap - k)) w') ∧ Rd w b ao' (n - k) (cap - k) (bs.drop k) := by
  refine ⟨_, fun w' => ?_, by have e := h.cutAt hk (Nat.le_refl n); rw [List.take_of_length_le (by simp [h.1])] at e; exact e⟩
  rw [run_slice_l w' t ao n cap ht kd (k : Int) (by omega) (by omega), run_sizeOf hs]
  rfl
theorem Rd.upto (h : Rd w b ao n cap bs) (ht : P.underlying t = some (.slice (P.elem t))) (hs : (P.info? (P.elem t)).map (·.size) = some 1) (kd : IntKind) {m : Nat} (hm : m ≤ n) :
    (∀ w', (Instr.slice t (.slice ao n cap) none (some (.int kd (m : Int))) none).run P w' = .ok (.slice ao m cap) w') ∧ Rd w b ao m cap (bs.take m) := by
  obtain ⟨h1, h2, h3, h4, h5⟩ := h
  refine ⟨fun w' => ?_, by simp; omega, by omega, h3, h4, fun hp => ?_⟩
  · rw [run_slice_h w' t ao n cap ht kd (m : Int) (by omega) (by omega), run_sizeOf hs]
    by_cases hc : cap = 0
    · subst hc
      simp only [Result.andThen_ok, sliced, if_true, Int.toNat_natCast, Nat.sub_zero]
    · obtain ⟨off, rfl, _⟩ := h5 (by omega)
      simp only [Result.andThen_ok, sliced, if_neg hc, Int.toNat_natCast, Nat.sub_zero, Nat.zero_mul, Option.map_some, Addr.add_lit, Nat.add_zero]
  · obtain ⟨off, ho, hc⟩ := h5 hp
    refine ⟨off, ho, fun j hj => ?_⟩
    rw [hc j (by omega)]
    simp only [List.getD, List.getElem?_take, if_pos hj]
theorem Rd.part (h : Rd w b ao n cap bs) (ht : P.underlying t = some (.slice (P.elem t))) (hs : (P.info? (P.elem t)).map (·.size) = some 1) (kd ke : IntKind) {k m : Nat} (hk : k ≤ m) (hm : m ≤ n) :
    ∃ ao', (∀ w', (Instr.slice t (.slice ao n cap) (some (.int kd (k : Int))) (some (.int ke (m : Int))) none).run P w' = .ok (.slice ao' (m - k) (cap - k)) w') ∧ Rd w b ao' (m - k) (cap - k) ((bs.drop k).take (m - k)) := by
  have h2 := h.2.1
  refine ⟨_, fun w' => ?_, h.cutAt hk hm⟩
  rw [run_slice_lh w' t ao n cap ht kd ke (k : Int) (m : Int) (by omega) (by omega) (by omega), run_sizeOf hs]
  rfl
end Go.Proofs.YtjjppbfknjeddaaGreatDoor
