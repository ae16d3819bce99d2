/- The document's reader: may a line be? Walked. -/
import Derived.Test.YtjjppbfknjeddaaGreatDoorLinRef
import Derived.Deep.RegionLaw
namespace Go.Proofs.YtjjppbfknjeddaaGreatDoor
open Go.RowKit Go.Shelf
set_option linter.unusedVariables false
set_option linter.unusedSimpArgs false
attribute [local go_sem ↓] Go.wp_at_zero Go.wp_at_succ
theorem may_odd {xs : List UInt8} {k : Nat} (hk : k < xs.length) (ho : oddB (xs.getD k 0) = true) : mayB xs = false := by
  have : xs.any oddB = true := by
    rw [List.any_eq_true]
    exact ⟨xs.getD k 0, by simp [List.getD, hk], ho⟩
  unfold mayB
  rw [this]; rfl
set_option maxRecDepth 20000 in
set_option maxHeartbeats 1000000 in
theorem may_any {w : World} {b1 : Nat} {a1 : Option Addr} {n1 c1 : Nat} {xs : List UInt8} (h1 : Rd w b1 a1 n1 c1 xs) {v : Bool} (hv : mayB xs = v) :
    Calls Tryz.prog 21 #[.slice a1 n1 c1] w fun e w' => e = .returned (.bool v) ∧ ∃ q, w' = w.drewN q := by
  obtain ⟨l1, le1, m1, z1, r1⟩ := h1
  unfold maxLen at m1
  have R1 := Lib.hid r1; clear r1
  have L1 := Lib.hid l1; clear l1
  have HV := Lib.hid hv; clear hv
  clear z1
  go_enter Tryz.func21, Tryz.ntmps21
  go_wp2_with fail
  go_loopw [3] (fun i wr => ∃ k : Nat, k ≤ n1 ∧ i = .int .i64 (k : Int) ∧ (xs.take k).any oddB = false ∧ ∃ q, wr = w.drewN q) (fun i _ => n1 - (intOf i).toNat)
  case atStart => exact ⟨0, by omega, rfl, by simp, 0, rfl⟩
  case round =>
    obtain ⟨k, hk, rfl, ht, q, rfl⟩ := hrel
    have HT := Lib.hid ht; clear ht
    by_cases hlt : k < n1
    · obtain ⟨o1, rfl, c1'⟩ := R1.out (by omega)
      have d1 : w.cell? ⟨b1, o1 + k, none⟩ = some (.int .u8 ((xs.getD k 0).toNat : Int)) := c1' k hlt
      clear c1'
      have hs := any_take_succ (by have := L1.out; omega) HT.out
      have hm := may_odd (xs := xs) (k := k) (by have := L1.out; omega)
      generalize hx : xs.getD k 0 = x at d1 hs hm
      have HM := Lib.hid hm; have HS := Lib.hid hs
      clear hs hm hx
      have k0 : (0 : Int) ≤ (k : Int) := by omega
      have k1 : (k : Int) < (n1 : Int) := by omega
      have hcase : ((x.toNat : Int) < 32 ∧ ((x.toNat : Int) != 9) = true ∧ oddB x = true) ∨ ((x.toNat : Int) < 32 ∧ ((x.toNat : Int) != 9) = false ∧ ¬ 126 < (x.toNat : Int) ∧ oddB x = false) ∨ (¬ (x.toNat : Int) < 32 ∧ 126 < (x.toNat : Int) ∧ oddB x = true) ∨ (¬ (x.toNat : Int) < 32 ∧ ¬ 126 < (x.toNat : Int) ∧ oddB x = false) := by
        rw [oddB_iff]
        by_cases h1 : (x.toNat : Int) < 32
        · by_cases h2 : (x.toNat : Int) = 9
          · right; left; refine ⟨h1, by rw [h2]; rfl, by omega, ?_⟩
            rw [decide_eq_true h1, decide_eq_true h2, decide_eq_false (by omega)]; rfl
          · left; refine ⟨h1, by rw [bne_iff_ne]; exact h2, ?_⟩
            rw [decide_eq_true h1, decide_eq_false h2]; rfl
        · by_cases h3 : 126 < (x.toNat : Int)
          · right; right; left; refine ⟨h1, h3, ?_⟩
            rw [decide_eq_true h3]; simp
          · right; right; right; refine ⟨h1, h3, ?_⟩
            rw [decide_eq_false h1, decide_eq_false h3]; rfl
      rcases hcase with ⟨h1, h2, ho⟩ | ⟨h1, h2, h3, ho⟩ | ⟨h1, h3, ho⟩ | ⟨h1, h3, ho⟩
      · have hv := HM.out ho
        rw [HV.out] at hv
        subst hv
        clear ho
        go_wp2_with fail
        go_ret
        exact ⟨rfl, _, rfl⟩
      · have HO := Lib.hid ho
        clear ho
        go_wp2_with fail
        go_roundw
        case rel => exact ⟨k + 1, by omega, by go_num, by rw [HS.out, HO.out], _, rfl⟩
        case measure => simp [intOf]; omega
      · have hv := HM.out ho
        rw [HV.out] at hv
        subst hv
        clear ho
        go_wp2_with fail
        go_ret
        exact ⟨rfl, _, rfl⟩
      · have HO := Lib.hid ho
        clear ho
        go_wp2_with fail
        go_roundw
        case rel => exact ⟨k + 1, by omega, by go_num, by rw [HS.out, HO.out], _, rfl⟩
        case measure => simp [intOf]; omega
    · have k1 : ¬ (k : Int) < (n1 : Int) := by omega
      have e := HT.out
      rw [List.take_of_length_le (by have := L1.out; omega)] at e
      have hv : v = decide (n1 ≤ 70000) := by rw [← HV.out]; unfold mayB; rw [e, L1.out]; rfl
      clear e
      by_cases hle : n1 ≤ 70000
      · have h7 : (n1 : Int) ≤ 70000 := by omega
        rw [decide_eq_true hle] at hv
        subst hv
        go_wp2_with fail
        go_ret
        exact ⟨rfl, _, rfl⟩
      · have h7 : ¬ (n1 : Int) ≤ 70000 := by omega
        rw [decide_eq_false hle] at hv
        subst hv
        go_wp2_with fail
        go_ret
        exact ⟨rfl, _, rfl⟩
end Go.Proofs.YtjjppbfknjeddaaGreatDoor
