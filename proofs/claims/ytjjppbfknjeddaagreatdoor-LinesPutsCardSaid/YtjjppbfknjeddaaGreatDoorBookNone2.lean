/- The book's lists of kinds of which it holds none. -/
import Derived.Test.YtjjppbfknjeddaaGreatDoorTwin
import Derived.Test.YtjjppbfknjeddaaGreatDoorBookP
namespace Go.Proofs.YtjjppbfknjeddaaGreatDoor
open Go.RowKit
set_option linter.unusedVariables false
set_option linter.unusedSimpArgs false
attribute [local go_sem ↓] Go.wp_at_zero Go.wp_at_succ
set_option maxRecDepth 20000 in
theorem fillByte_any {w : World} {k n : Nat} {s4 s5 : Value} (hk : BookAt w k n (.slice none 0 0) s4 s5) : Calls Tryz.prog 24 #[.pointer (some ⟨k, 0, none⟩)] w fun e w' => (∃ v, e = .returned v) ∧ w' = w := by
  have d1 := hk.cell 1
  simp only [bookRow, List.getElem?_toArray, List.getElem?_cons_zero, List.getElem?_cons_succ] at d1
  clear hk
  go_enter Tryz.func24, Tryz.ntmps24
  go_wp2_with fail
  go_loopw [2] (fun i wr => i = .int .i64 0 ∧ w = wr) (fun _ _ => 0)
  case atStart => exact ⟨rfl, rfl⟩
  case round =>
    obtain ⟨rfl, rfl⟩ := hrel
    go_wp2_with fail
    go_end0
    exact ⟨⟨_, rfl⟩, rfl⟩
set_option maxRecDepth 20000 in
theorem fillInt32_any {w : World} {k n : Nat} {s4 s5 : Value} (hk : BookAt w k n (.slice none 0 0) s4 s5) : Calls Tryz.prog 25 #[.pointer (some ⟨k, 0, none⟩)] w fun e w' => (∃ v, e = .returned v) ∧ w' = w := by
  have d1 := hk.cell 2
  simp only [bookRow, List.getElem?_toArray, List.getElem?_cons_zero, List.getElem?_cons_succ] at d1
  clear hk
  go_enter Tryz.func25, Tryz.ntmps25
  go_wp2_with fail
  go_loopw [2] (fun i wr => i = .int .i64 0 ∧ w = wr) (fun _ _ => 0)
  case atStart => exact ⟨rfl, rfl⟩
  case round =>
    obtain ⟨rfl, rfl⟩ := hrel
    go_wp2_with fail
    go_end0
    exact ⟨⟨_, rfl⟩, rfl⟩
set_option maxRecDepth 20000 in
theorem fillNum_any {w : World} {k n : Nat} {s4 s5 : Value} (hk : BookAt w k n (.slice none 0 0) s4 s5) : Calls Tryz.prog 26 #[.pointer (some ⟨k, 0, none⟩)] w fun e w' => (∃ v, e = .returned v) ∧ w' = w := by
  have d1 := hk.cell 3
  simp only [bookRow, List.getElem?_toArray, List.getElem?_cons_zero, List.getElem?_cons_succ] at d1
  clear hk
  go_enter Tryz.func26, Tryz.ntmps26
  go_wp2_with fail
  go_loopw [2] (fun i wr => i = .int .i64 0 ∧ w = wr) (fun _ _ => 0)
  case atStart => exact ⟨rfl, rfl⟩
  case round =>
    obtain ⟨rfl, rfl⟩ := hrel
    go_wp2_with fail
    go_end0
    exact ⟨⟨_, rfl⟩, rfl⟩
set_option maxRecDepth 20000 in
theorem fillToken_any {w : World} {k n : Nat} {s4 s5 : Value} (hk : BookAt w k n (.slice none 0 0) s4 s5) : Calls Tryz.prog 29 #[.pointer (some ⟨k, 0, none⟩)] w fun e w' => (∃ v, e = .returned v) ∧ w' = w := by
  have d1 := hk.cell 6
  simp only [bookRow, List.getElem?_toArray, List.getElem?_cons_zero, List.getElem?_cons_succ] at d1
  clear hk
  go_enter Tryz.func29, Tryz.ntmps29
  go_wp2_with fail
  go_loopw [2] (fun i wr => i = .int .i64 0 ∧ w = wr) (fun _ _ => 0)
  case atStart => exact ⟨rfl, rfl⟩
  case round =>
    obtain ⟨rfl, rfl⟩ := hrel
    go_wp2_with fail
    go_end0
    exact ⟨⟨_, rfl⟩, rfl⟩
set_option maxRecDepth 20000 in
theorem fillTenant_any {w : World} {k n : Nat} {s4 s5 : Value} (hk : BookAt w k n (.slice none 0 0) s4 s5) : Calls Tryz.prog 30 #[.pointer (some ⟨k, 0, none⟩)] w fun e w' => (∃ v, e = .returned v) ∧ w' = w := by
  have d1 := hk.cell 7
  simp only [bookRow, List.getElem?_toArray, List.getElem?_cons_zero, List.getElem?_cons_succ] at d1
  clear hk
  go_enter Tryz.func30, Tryz.ntmps30
  go_wp2_with fail
  go_loopw [2] (fun i wr => i = .int .i64 0 ∧ w = wr) (fun _ _ => 0)
  case atStart => exact ⟨rfl, rfl⟩
  case round =>
    obtain ⟨rfl, rfl⟩ := hrel
    go_wp2_with fail
    go_end0
    exact ⟨⟨_, rfl⟩, rfl⟩
set_option maxRecDepth 20000 in
theorem fillRat_any {w : World} {k n : Nat} {s4 s5 : Value} (hk : BookAt w k n (.slice none 0 0) s4 s5) : Calls Tryz.prog 31 #[.pointer (some ⟨k, 0, none⟩)] w fun e w' => (∃ v, e = .returned v) ∧ w' = w := by
  have d1 := hk.cell 8
  simp only [bookRow, List.getElem?_toArray, List.getElem?_cons_zero, List.getElem?_cons_succ] at d1
  clear hk
  go_enter Tryz.func31, Tryz.ntmps31
  go_wp2_with fail
  go_loopw [2] (fun i wr => i = .int .i64 0 ∧ w = wr) (fun _ _ => 0)
  case atStart => exact ⟨rfl, rfl⟩
  case round =>
    obtain ⟨rfl, rfl⟩ := hrel
    go_wp2_with fail
    go_end0
    exact ⟨⟨_, rfl⟩, rfl⟩
set_option maxRecDepth 20000 in
theorem fillVar_any {w : World} {k n : Nat} {s4 s5 : Value} (hk : BookAt w k n (.slice none 0 0) s4 s5) : Calls Tryz.prog 32 #[.pointer (some ⟨k, 0, none⟩)] w fun e w' => (∃ v, e = .returned v) ∧ w' = w := by
  have d1 := hk.cell 9
  simp only [bookRow, List.getElem?_toArray, List.getElem?_cons_zero, List.getElem?_cons_succ] at d1
  clear hk
  go_enter Tryz.func32, Tryz.ntmps32
  go_wp2_with fail
  go_loopw [2] (fun i wr => i = .int .i64 0 ∧ w = wr) (fun _ _ => 0)
  case atStart => exact ⟨rfl, rfl⟩
  case round =>
    obtain ⟨rfl, rfl⟩ := hrel
    go_wp2_with fail
    go_end0
    exact ⟨⟨_, rfl⟩, rfl⟩
set_option maxRecDepth 20000 in
theorem fillRow_any {w : World} {k n : Nat} {s4 s5 : Value} (hk : BookAt w k n (.slice none 0 0) s4 s5) : Calls Tryz.prog 33 #[.pointer (some ⟨k, 0, none⟩)] w fun e w' => (∃ v, e = .returned v) ∧ w' = w := by
  have d1 := hk.cell 10
  simp only [bookRow, List.getElem?_toArray, List.getElem?_cons_zero, List.getElem?_cons_succ] at d1
  clear hk
  go_enter Tryz.func33, Tryz.ntmps33
  go_wp2_with fail
  go_loopw [2] (fun i wr => i = .int .i64 0 ∧ w = wr) (fun _ _ => 0)
  case atStart => exact ⟨rfl, rfl⟩
  case round =>
    obtain ⟨rfl, rfl⟩ := hrel
    go_wp2_with fail
    go_end0
    exact ⟨⟨_, rfl⟩, rfl⟩
set_option maxRecDepth 20000 in
theorem fillNode_any {w : World} {k n : Nat} {s4 s5 : Value} (hk : BookAt w k n (.slice none 0 0) s4 s5) : Calls Tryz.prog 34 #[.pointer (some ⟨k, 0, none⟩)] w fun e w' => (∃ v, e = .returned v) ∧ w' = w := by
  have d1 := hk.cell 11
  simp only [bookRow, List.getElem?_toArray, List.getElem?_cons_zero, List.getElem?_cons_succ] at d1
  clear hk
  go_enter Tryz.func34, Tryz.ntmps34
  go_wp2_with fail
  go_loopw [2] (fun i wr => i = .int .i64 0 ∧ w = wr) (fun _ _ => 0)
  case atStart => exact ⟨rfl, rfl⟩
  case round =>
    obtain ⟨rfl, rfl⟩ := hrel
    go_wp2_with fail
    go_end0
    exact ⟨⟨_, rfl⟩, rfl⟩
set_option maxRecDepth 20000 in
theorem fillJob_any {w : World} {k n : Nat} {s4 s5 : Value} (hk : BookAt w k n (.slice none 0 0) s4 s5) : Calls Tryz.prog 35 #[.pointer (some ⟨k, 0, none⟩)] w fun e w' => (∃ v, e = .returned v) ∧ w' = w := by
  have d1 := hk.cell 12
  simp only [bookRow, List.getElem?_toArray, List.getElem?_cons_zero, List.getElem?_cons_succ] at d1
  clear hk
  go_enter Tryz.func35, Tryz.ntmps35
  go_wp2_with fail
  go_loopw [2] (fun i wr => i = .int .i64 0 ∧ w = wr) (fun _ _ => 0)
  case atStart => exact ⟨rfl, rfl⟩
  case round =>
    obtain ⟨rfl, rfl⟩ := hrel
    go_wp2_with fail
    go_end0
    exact ⟨⟨_, rfl⟩, rfl⟩
set_option maxRecDepth 20000 in
theorem growByte_any {w : World} {k n : Nat} {s4 s5 : Value} (hk : BookAt w k n (.slice none 0 0) s4 s5) : Calls Tryz.prog 36 #[.pointer (some ⟨k, 0, none⟩)] w fun e w' => (∃ v, e = .returned v) ∧ w' = w := by
  have d1 := hk.cell 1
  simp only [bookRow, List.getElem?_toArray, List.getElem?_cons_zero, List.getElem?_cons_succ] at d1
  clear hk
  go_enter Tryz.func36, Tryz.ntmps36
  go_wp2_with fail
  go_loopw [2] (fun i wr => i = .int .i64 0 ∧ w = wr) (fun _ _ => 0)
  case atStart => exact ⟨rfl, rfl⟩
  case round =>
    obtain ⟨rfl, rfl⟩ := hrel
    go_wp2_with fail
    go_end0
    exact ⟨⟨_, rfl⟩, rfl⟩
set_option maxRecDepth 20000 in
theorem growInt32_any {w : World} {k n : Nat} {s4 s5 : Value} (hk : BookAt w k n (.slice none 0 0) s4 s5) : Calls Tryz.prog 37 #[.pointer (some ⟨k, 0, none⟩)] w fun e w' => (∃ v, e = .returned v) ∧ w' = w := by
  have d1 := hk.cell 2
  simp only [bookRow, List.getElem?_toArray, List.getElem?_cons_zero, List.getElem?_cons_succ] at d1
  clear hk
  go_enter Tryz.func37, Tryz.ntmps37
  go_wp2_with fail
  go_loopw [2] (fun i wr => i = .int .i64 0 ∧ w = wr) (fun _ _ => 0)
  case atStart => exact ⟨rfl, rfl⟩
  case round =>
    obtain ⟨rfl, rfl⟩ := hrel
    go_wp2_with fail
    go_end0
    exact ⟨⟨_, rfl⟩, rfl⟩
set_option maxRecDepth 20000 in
theorem growNum_any {w : World} {k n : Nat} {s4 s5 : Value} (hk : BookAt w k n (.slice none 0 0) s4 s5) : Calls Tryz.prog 38 #[.pointer (some ⟨k, 0, none⟩)] w fun e w' => (∃ v, e = .returned v) ∧ w' = w := by
  have d1 := hk.cell 3
  simp only [bookRow, List.getElem?_toArray, List.getElem?_cons_zero, List.getElem?_cons_succ] at d1
  clear hk
  go_enter Tryz.func38, Tryz.ntmps38
  go_wp2_with fail
  go_loopw [2] (fun i wr => i = .int .i64 0 ∧ w = wr) (fun _ _ => 0)
  case atStart => exact ⟨rfl, rfl⟩
  case round =>
    obtain ⟨rfl, rfl⟩ := hrel
    go_wp2_with fail
    go_end0
    exact ⟨⟨_, rfl⟩, rfl⟩
set_option maxRecDepth 20000 in
theorem growToken_any {w : World} {k n : Nat} {s4 s5 : Value} (hk : BookAt w k n (.slice none 0 0) s4 s5) : Calls Tryz.prog 41 #[.pointer (some ⟨k, 0, none⟩)] w fun e w' => (∃ v, e = .returned v) ∧ w' = w := by
  have d1 := hk.cell 6
  simp only [bookRow, List.getElem?_toArray, List.getElem?_cons_zero, List.getElem?_cons_succ] at d1
  clear hk
  go_enter Tryz.func41, Tryz.ntmps41
  go_wp2_with fail
  go_loopw [2] (fun i wr => i = .int .i64 0 ∧ w = wr) (fun _ _ => 0)
  case atStart => exact ⟨rfl, rfl⟩
  case round =>
    obtain ⟨rfl, rfl⟩ := hrel
    go_wp2_with fail
    go_end0
    exact ⟨⟨_, rfl⟩, rfl⟩
set_option maxRecDepth 20000 in
theorem growTenant_any {w : World} {k n : Nat} {s4 s5 : Value} (hk : BookAt w k n (.slice none 0 0) s4 s5) : Calls Tryz.prog 42 #[.pointer (some ⟨k, 0, none⟩)] w fun e w' => (∃ v, e = .returned v) ∧ w' = w := by
  have d1 := hk.cell 7
  simp only [bookRow, List.getElem?_toArray, List.getElem?_cons_zero, List.getElem?_cons_succ] at d1
  clear hk
  go_enter Tryz.func42, Tryz.ntmps42
  go_wp2_with fail
  go_loopw [2] (fun i wr => i = .int .i64 0 ∧ w = wr) (fun _ _ => 0)
  case atStart => exact ⟨rfl, rfl⟩
  case round =>
    obtain ⟨rfl, rfl⟩ := hrel
    go_wp2_with fail
    go_end0
    exact ⟨⟨_, rfl⟩, rfl⟩
set_option maxRecDepth 20000 in
theorem growRat_any {w : World} {k n : Nat} {s4 s5 : Value} (hk : BookAt w k n (.slice none 0 0) s4 s5) : Calls Tryz.prog 43 #[.pointer (some ⟨k, 0, none⟩)] w fun e w' => (∃ v, e = .returned v) ∧ w' = w := by
  have d1 := hk.cell 8
  simp only [bookRow, List.getElem?_toArray, List.getElem?_cons_zero, List.getElem?_cons_succ] at d1
  clear hk
  go_enter Tryz.func43, Tryz.ntmps43
  go_wp2_with fail
  go_loopw [2] (fun i wr => i = .int .i64 0 ∧ w = wr) (fun _ _ => 0)
  case atStart => exact ⟨rfl, rfl⟩
  case round =>
    obtain ⟨rfl, rfl⟩ := hrel
    go_wp2_with fail
    go_end0
    exact ⟨⟨_, rfl⟩, rfl⟩
set_option maxRecDepth 20000 in
theorem growVar_any {w : World} {k n : Nat} {s4 s5 : Value} (hk : BookAt w k n (.slice none 0 0) s4 s5) : Calls Tryz.prog 44 #[.pointer (some ⟨k, 0, none⟩)] w fun e w' => (∃ v, e = .returned v) ∧ w' = w := by
  have d1 := hk.cell 9
  simp only [bookRow, List.getElem?_toArray, List.getElem?_cons_zero, List.getElem?_cons_succ] at d1
  clear hk
  go_enter Tryz.func44, Tryz.ntmps44
  go_wp2_with fail
  go_loopw [2] (fun i wr => i = .int .i64 0 ∧ w = wr) (fun _ _ => 0)
  case atStart => exact ⟨rfl, rfl⟩
  case round =>
    obtain ⟨rfl, rfl⟩ := hrel
    go_wp2_with fail
    go_end0
    exact ⟨⟨_, rfl⟩, rfl⟩
set_option maxRecDepth 20000 in
theorem growRow_any {w : World} {k n : Nat} {s4 s5 : Value} (hk : BookAt w k n (.slice none 0 0) s4 s5) : Calls Tryz.prog 45 #[.pointer (some ⟨k, 0, none⟩)] w fun e w' => (∃ v, e = .returned v) ∧ w' = w := by
  have d1 := hk.cell 10
  simp only [bookRow, List.getElem?_toArray, List.getElem?_cons_zero, List.getElem?_cons_succ] at d1
  clear hk
  go_enter Tryz.func45, Tryz.ntmps45
  go_wp2_with fail
  go_loopw [2] (fun i wr => i = .int .i64 0 ∧ w = wr) (fun _ _ => 0)
  case atStart => exact ⟨rfl, rfl⟩
  case round =>
    obtain ⟨rfl, rfl⟩ := hrel
    go_wp2_with fail
    go_end0
    exact ⟨⟨_, rfl⟩, rfl⟩
set_option maxRecDepth 20000 in
theorem growNode_any {w : World} {k n : Nat} {s4 s5 : Value} (hk : BookAt w k n (.slice none 0 0) s4 s5) : Calls Tryz.prog 46 #[.pointer (some ⟨k, 0, none⟩)] w fun e w' => (∃ v, e = .returned v) ∧ w' = w := by
  have d1 := hk.cell 11
  simp only [bookRow, List.getElem?_toArray, List.getElem?_cons_zero, List.getElem?_cons_succ] at d1
  clear hk
  go_enter Tryz.func46, Tryz.ntmps46
  go_wp2_with fail
  go_loopw [2] (fun i wr => i = .int .i64 0 ∧ w = wr) (fun _ _ => 0)
  case atStart => exact ⟨rfl, rfl⟩
  case round =>
    obtain ⟨rfl, rfl⟩ := hrel
    go_wp2_with fail
    go_end0
    exact ⟨⟨_, rfl⟩, rfl⟩
set_option maxRecDepth 20000 in
theorem growJob_any {w : World} {k n : Nat} {s4 s5 : Value} (hk : BookAt w k n (.slice none 0 0) s4 s5) : Calls Tryz.prog 47 #[.pointer (some ⟨k, 0, none⟩)] w fun e w' => (∃ v, e = .returned v) ∧ w' = w := by
  have d1 := hk.cell 12
  simp only [bookRow, List.getElem?_toArray, List.getElem?_cons_zero, List.getElem?_cons_succ] at d1
  clear hk
  go_enter Tryz.func47, Tryz.ntmps47
  go_wp2_with fail
  go_loopw [2] (fun i wr => i = .int .i64 0 ∧ w = wr) (fun _ _ => 0)
  case atStart => exact ⟨rfl, rfl⟩
  case round =>
    obtain ⟨rfl, rfl⟩ := hrel
    go_wp2_with fail
    go_end0
    exact ⟨⟨_, rfl⟩, rfl⟩
set_option maxRecDepth 20000 in
theorem lookByte_any {w : World} {k n : Nat} {s4 s5 : Value} (hk : BookAt w k n (.slice none 0 0) s4 s5) : Calls Tryz.prog 48 #[.pointer (some ⟨k, 0, none⟩)] w fun e w' => e = .returned (.bool true) ∧ w' = w := by
  have d1 := hk.cell 1
  simp only [bookRow, List.getElem?_toArray, List.getElem?_cons_zero, List.getElem?_cons_succ] at d1
  clear hk
  go_enter Tryz.func48, Tryz.ntmps48
  go_wp2_with fail
  go_loopw [3] (fun i wr => i = .int .i64 0 ∧ w = wr) (fun _ _ => 0)
  case atStart => exact ⟨rfl, rfl⟩
  case round =>
    obtain ⟨rfl, rfl⟩ := hrel
    go_wp2_with fail
    go_ret
    exact ⟨rfl, rfl⟩
set_option maxRecDepth 20000 in
theorem lookInt32_any {w : World} {k n : Nat} {s4 s5 : Value} (hk : BookAt w k n (.slice none 0 0) s4 s5) : Calls Tryz.prog 49 #[.pointer (some ⟨k, 0, none⟩)] w fun e w' => e = .returned (.bool true) ∧ w' = w := by
  have d1 := hk.cell 2
  simp only [bookRow, List.getElem?_toArray, List.getElem?_cons_zero, List.getElem?_cons_succ] at d1
  clear hk
  go_enter Tryz.func49, Tryz.ntmps49
  go_wp2_with fail
  go_loopw [3] (fun i wr => i = .int .i64 0 ∧ w = wr) (fun _ _ => 0)
  case atStart => exact ⟨rfl, rfl⟩
  case round =>
    obtain ⟨rfl, rfl⟩ := hrel
    go_wp2_with fail
    go_ret
    exact ⟨rfl, rfl⟩
set_option maxRecDepth 20000 in
theorem lookNum_any {w : World} {k n : Nat} {s4 s5 : Value} (hk : BookAt w k n (.slice none 0 0) s4 s5) : Calls Tryz.prog 50 #[.pointer (some ⟨k, 0, none⟩)] w fun e w' => e = .returned (.bool true) ∧ w' = w := by
  have d1 := hk.cell 3
  simp only [bookRow, List.getElem?_toArray, List.getElem?_cons_zero, List.getElem?_cons_succ] at d1
  clear hk
  go_enter Tryz.func50, Tryz.ntmps50
  go_wp2_with fail
  go_loopw [3] (fun i wr => i = .int .i64 0 ∧ w = wr) (fun _ _ => 0)
  case atStart => exact ⟨rfl, rfl⟩
  case round =>
    obtain ⟨rfl, rfl⟩ := hrel
    go_wp2_with fail
    go_ret
    exact ⟨rfl, rfl⟩
set_option maxRecDepth 20000 in
theorem lookToken_any {w : World} {k n : Nat} {s4 s5 : Value} (hk : BookAt w k n (.slice none 0 0) s4 s5) : Calls Tryz.prog 53 #[.pointer (some ⟨k, 0, none⟩)] w fun e w' => e = .returned (.bool true) ∧ w' = w := by
  have d1 := hk.cell 6
  simp only [bookRow, List.getElem?_toArray, List.getElem?_cons_zero, List.getElem?_cons_succ] at d1
  clear hk
  go_enter Tryz.func53, Tryz.ntmps53
  go_wp2_with fail
  go_loopw [3] (fun i wr => i = .int .i64 0 ∧ w = wr) (fun _ _ => 0)
  case atStart => exact ⟨rfl, rfl⟩
  case round =>
    obtain ⟨rfl, rfl⟩ := hrel
    go_wp2_with fail
    go_ret
    exact ⟨rfl, rfl⟩
set_option maxRecDepth 20000 in
theorem lookTenant_any {w : World} {k n : Nat} {s4 s5 : Value} (hk : BookAt w k n (.slice none 0 0) s4 s5) : Calls Tryz.prog 54 #[.pointer (some ⟨k, 0, none⟩)] w fun e w' => e = .returned (.bool true) ∧ w' = w := by
  have d1 := hk.cell 7
  simp only [bookRow, List.getElem?_toArray, List.getElem?_cons_zero, List.getElem?_cons_succ] at d1
  clear hk
  go_enter Tryz.func54, Tryz.ntmps54
  go_wp2_with fail
  go_loopw [3] (fun i wr => i = .int .i64 0 ∧ w = wr) (fun _ _ => 0)
  case atStart => exact ⟨rfl, rfl⟩
  case round =>
    obtain ⟨rfl, rfl⟩ := hrel
    go_wp2_with fail
    go_ret
    exact ⟨rfl, rfl⟩
set_option maxRecDepth 20000 in
theorem lookRat_any {w : World} {k n : Nat} {s4 s5 : Value} (hk : BookAt w k n (.slice none 0 0) s4 s5) : Calls Tryz.prog 55 #[.pointer (some ⟨k, 0, none⟩)] w fun e w' => e = .returned (.bool true) ∧ w' = w := by
  have d1 := hk.cell 8
  simp only [bookRow, List.getElem?_toArray, List.getElem?_cons_zero, List.getElem?_cons_succ] at d1
  clear hk
  go_enter Tryz.func55, Tryz.ntmps55
  go_wp2_with fail
  go_loopw [3] (fun i wr => i = .int .i64 0 ∧ w = wr) (fun _ _ => 0)
  case atStart => exact ⟨rfl, rfl⟩
  case round =>
    obtain ⟨rfl, rfl⟩ := hrel
    go_wp2_with fail
    go_ret
    exact ⟨rfl, rfl⟩
set_option maxRecDepth 20000 in
theorem lookVar_any {w : World} {k n : Nat} {s4 s5 : Value} (hk : BookAt w k n (.slice none 0 0) s4 s5) : Calls Tryz.prog 56 #[.pointer (some ⟨k, 0, none⟩)] w fun e w' => e = .returned (.bool true) ∧ w' = w := by
  have d1 := hk.cell 9
  simp only [bookRow, List.getElem?_toArray, List.getElem?_cons_zero, List.getElem?_cons_succ] at d1
  clear hk
  go_enter Tryz.func56, Tryz.ntmps56
  go_wp2_with fail
  go_loopw [3] (fun i wr => i = .int .i64 0 ∧ w = wr) (fun _ _ => 0)
  case atStart => exact ⟨rfl, rfl⟩
  case round =>
    obtain ⟨rfl, rfl⟩ := hrel
    go_wp2_with fail
    go_ret
    exact ⟨rfl, rfl⟩
set_option maxRecDepth 20000 in
theorem lookRow_any {w : World} {k n : Nat} {s4 s5 : Value} (hk : BookAt w k n (.slice none 0 0) s4 s5) : Calls Tryz.prog 57 #[.pointer (some ⟨k, 0, none⟩)] w fun e w' => e = .returned (.bool true) ∧ w' = w := by
  have d1 := hk.cell 10
  simp only [bookRow, List.getElem?_toArray, List.getElem?_cons_zero, List.getElem?_cons_succ] at d1
  clear hk
  go_enter Tryz.func57, Tryz.ntmps57
  go_wp2_with fail
  go_loopw [3] (fun i wr => i = .int .i64 0 ∧ w = wr) (fun _ _ => 0)
  case atStart => exact ⟨rfl, rfl⟩
  case round =>
    obtain ⟨rfl, rfl⟩ := hrel
    go_wp2_with fail
    go_ret
    exact ⟨rfl, rfl⟩
set_option maxRecDepth 20000 in
theorem lookNode_any {w : World} {k n : Nat} {s4 s5 : Value} (hk : BookAt w k n (.slice none 0 0) s4 s5) : Calls Tryz.prog 58 #[.pointer (some ⟨k, 0, none⟩)] w fun e w' => e = .returned (.bool true) ∧ w' = w := by
  have d1 := hk.cell 11
  simp only [bookRow, List.getElem?_toArray, List.getElem?_cons_zero, List.getElem?_cons_succ] at d1
  clear hk
  go_enter Tryz.func58, Tryz.ntmps58
  go_wp2_with fail
  go_loopw [3] (fun i wr => i = .int .i64 0 ∧ w = wr) (fun _ _ => 0)
  case atStart => exact ⟨rfl, rfl⟩
  case round =>
    obtain ⟨rfl, rfl⟩ := hrel
    go_wp2_with fail
    go_ret
    exact ⟨rfl, rfl⟩
set_option maxRecDepth 20000 in
theorem lookJob_any {w : World} {k n : Nat} {s4 s5 : Value} (hk : BookAt w k n (.slice none 0 0) s4 s5) : Calls Tryz.prog 59 #[.pointer (some ⟨k, 0, none⟩)] w fun e w' => e = .returned (.bool true) ∧ w' = w := by
  have d1 := hk.cell 12
  simp only [bookRow, List.getElem?_toArray, List.getElem?_cons_zero, List.getElem?_cons_succ] at d1
  clear hk
  go_enter Tryz.func59, Tryz.ntmps59
  go_wp2_with fail
  go_loopw [3] (fun i wr => i = .int .i64 0 ∧ w = wr) (fun _ _ => 0)
  case atStart => exact ⟨rfl, rfl⟩
  case round =>
    obtain ⟨rfl, rfl⟩ := hrel
    go_wp2_with fail
    go_ret
    exact ⟨rfl, rfl⟩
end Go.Proofs.YtjjppbfknjeddaaGreatDoor
