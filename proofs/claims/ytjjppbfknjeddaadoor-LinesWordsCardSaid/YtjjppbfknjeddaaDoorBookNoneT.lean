/- The book's lists of kinds of which it holds none. -/
import Derived.Test.YtjjppbfknjeddaaDoorTwin
import Derived.Test.YtjjppbfknjeddaaDoorBookP
namespace Go.Proofs.YtjjppbfknjeddaaDoor
open Go.RowKit
set_option linter.unusedVariables false
set_option linter.unusedSimpArgs false
attribute [local go_sem ↓] Go.wp_at_zero Go.wp_at_succ
set_option maxRecDepth 20000 in
theorem fillByte_any {w : World} {k n : Nat} {s5 : Value} (hk : BookAt w k n (.slice none 0 0) (.slice none 0 0) s5) : Calls Tryd.prog 13 #[.pointer (some ⟨k, 0, none⟩)] w fun e w' => (∃ v, e = .returned v) ∧ w' = w := by
  have d1 := hk.cell 1
  simp only [bookRow, List.getElem?_toArray, List.getElem?_cons_zero, List.getElem?_cons_succ] at d1
  clear hk
  go_enter Tryd.func13, Tryd.ntmps13
  go_wp2_with fail
  go_loopw [2] (fun i wr => i = .int .i64 0 ∧ w = wr) (fun _ _ => 0)
  case atStart => exact ⟨rfl, rfl⟩
  case round =>
    obtain ⟨rfl, rfl⟩ := hrel
    go_wp2_with fail
    go_end0
    exact ⟨⟨_, rfl⟩, rfl⟩
set_option maxRecDepth 20000 in
theorem fillInt32_any {w : World} {k n : Nat} {s5 : Value} (hk : BookAt w k n (.slice none 0 0) (.slice none 0 0) s5) : Calls Tryd.prog 14 #[.pointer (some ⟨k, 0, none⟩)] w fun e w' => (∃ v, e = .returned v) ∧ w' = w := by
  have d1 := hk.cell 2
  simp only [bookRow, List.getElem?_toArray, List.getElem?_cons_zero, List.getElem?_cons_succ] at d1
  clear hk
  go_enter Tryd.func14, Tryd.ntmps14
  go_wp2_with fail
  go_loopw [2] (fun i wr => i = .int .i64 0 ∧ w = wr) (fun _ _ => 0)
  case atStart => exact ⟨rfl, rfl⟩
  case round =>
    obtain ⟨rfl, rfl⟩ := hrel
    go_wp2_with fail
    go_end0
    exact ⟨⟨_, rfl⟩, rfl⟩
set_option maxRecDepth 20000 in
theorem fillNum_any {w : World} {k n : Nat} {s5 : Value} (hk : BookAt w k n (.slice none 0 0) (.slice none 0 0) s5) : Calls Tryd.prog 15 #[.pointer (some ⟨k, 0, none⟩)] w fun e w' => (∃ v, e = .returned v) ∧ w' = w := by
  have d1 := hk.cell 3
  simp only [bookRow, List.getElem?_toArray, List.getElem?_cons_zero, List.getElem?_cons_succ] at d1
  clear hk
  go_enter Tryd.func15, Tryd.ntmps15
  go_wp2_with fail
  go_loopw [2] (fun i wr => i = .int .i64 0 ∧ w = wr) (fun _ _ => 0)
  case atStart => exact ⟨rfl, rfl⟩
  case round =>
    obtain ⟨rfl, rfl⟩ := hrel
    go_wp2_with fail
    go_end0
    exact ⟨⟨_, rfl⟩, rfl⟩
set_option maxRecDepth 20000 in
theorem fillBool_any {w : World} {k n : Nat} {s5 : Value} (hk : BookAt w k n (.slice none 0 0) (.slice none 0 0) s5) : Calls Tryd.prog 16 #[.pointer (some ⟨k, 0, none⟩)] w fun e w' => (∃ v, e = .returned v) ∧ w' = w := by
  have d1 := hk.cell 4
  simp only [bookRow, List.getElem?_toArray, List.getElem?_cons_zero, List.getElem?_cons_succ] at d1
  clear hk
  go_enter Tryd.func16, Tryd.ntmps16
  go_wp2_with fail
  go_loopw [2] (fun i wr => i = .int .i64 0 ∧ w = wr) (fun _ _ => 0)
  case atStart => exact ⟨rfl, rfl⟩
  case round =>
    obtain ⟨rfl, rfl⟩ := hrel
    go_wp2_with fail
    go_end0
    exact ⟨⟨_, rfl⟩, rfl⟩
set_option maxRecDepth 20000 in
theorem fillToken_any {w : World} {k n : Nat} {s5 : Value} (hk : BookAt w k n (.slice none 0 0) (.slice none 0 0) s5) : Calls Tryd.prog 18 #[.pointer (some ⟨k, 0, none⟩)] w fun e w' => (∃ v, e = .returned v) ∧ w' = w := by
  have d1 := hk.cell 6
  simp only [bookRow, List.getElem?_toArray, List.getElem?_cons_zero, List.getElem?_cons_succ] at d1
  clear hk
  go_enter Tryd.func18, Tryd.ntmps18
  go_wp2_with fail
  go_loopw [2] (fun i wr => i = .int .i64 0 ∧ w = wr) (fun _ _ => 0)
  case atStart => exact ⟨rfl, rfl⟩
  case round =>
    obtain ⟨rfl, rfl⟩ := hrel
    go_wp2_with fail
    go_end0
    exact ⟨⟨_, rfl⟩, rfl⟩
set_option maxRecDepth 20000 in
theorem fillTenant_any {w : World} {k n : Nat} {s5 : Value} (hk : BookAt w k n (.slice none 0 0) (.slice none 0 0) s5) : Calls Tryd.prog 19 #[.pointer (some ⟨k, 0, none⟩)] w fun e w' => (∃ v, e = .returned v) ∧ w' = w := by
  have d1 := hk.cell 7
  simp only [bookRow, List.getElem?_toArray, List.getElem?_cons_zero, List.getElem?_cons_succ] at d1
  clear hk
  go_enter Tryd.func19, Tryd.ntmps19
  go_wp2_with fail
  go_loopw [2] (fun i wr => i = .int .i64 0 ∧ w = wr) (fun _ _ => 0)
  case atStart => exact ⟨rfl, rfl⟩
  case round =>
    obtain ⟨rfl, rfl⟩ := hrel
    go_wp2_with fail
    go_end0
    exact ⟨⟨_, rfl⟩, rfl⟩
set_option maxRecDepth 20000 in
theorem fillRat_any {w : World} {k n : Nat} {s5 : Value} (hk : BookAt w k n (.slice none 0 0) (.slice none 0 0) s5) : Calls Tryd.prog 20 #[.pointer (some ⟨k, 0, none⟩)] w fun e w' => (∃ v, e = .returned v) ∧ w' = w := by
  have d1 := hk.cell 8
  simp only [bookRow, List.getElem?_toArray, List.getElem?_cons_zero, List.getElem?_cons_succ] at d1
  clear hk
  go_enter Tryd.func20, Tryd.ntmps20
  go_wp2_with fail
  go_loopw [2] (fun i wr => i = .int .i64 0 ∧ w = wr) (fun _ _ => 0)
  case atStart => exact ⟨rfl, rfl⟩
  case round =>
    obtain ⟨rfl, rfl⟩ := hrel
    go_wp2_with fail
    go_end0
    exact ⟨⟨_, rfl⟩, rfl⟩
set_option maxRecDepth 20000 in
theorem fillVar_any {w : World} {k n : Nat} {s5 : Value} (hk : BookAt w k n (.slice none 0 0) (.slice none 0 0) s5) : Calls Tryd.prog 21 #[.pointer (some ⟨k, 0, none⟩)] w fun e w' => (∃ v, e = .returned v) ∧ w' = w := by
  have d1 := hk.cell 9
  simp only [bookRow, List.getElem?_toArray, List.getElem?_cons_zero, List.getElem?_cons_succ] at d1
  clear hk
  go_enter Tryd.func21, Tryd.ntmps21
  go_wp2_with fail
  go_loopw [2] (fun i wr => i = .int .i64 0 ∧ w = wr) (fun _ _ => 0)
  case atStart => exact ⟨rfl, rfl⟩
  case round =>
    obtain ⟨rfl, rfl⟩ := hrel
    go_wp2_with fail
    go_end0
    exact ⟨⟨_, rfl⟩, rfl⟩
set_option maxRecDepth 20000 in
theorem fillRow_any {w : World} {k n : Nat} {s5 : Value} (hk : BookAt w k n (.slice none 0 0) (.slice none 0 0) s5) : Calls Tryd.prog 22 #[.pointer (some ⟨k, 0, none⟩)] w fun e w' => (∃ v, e = .returned v) ∧ w' = w := by
  have d1 := hk.cell 10
  simp only [bookRow, List.getElem?_toArray, List.getElem?_cons_zero, List.getElem?_cons_succ] at d1
  clear hk
  go_enter Tryd.func22, Tryd.ntmps22
  go_wp2_with fail
  go_loopw [2] (fun i wr => i = .int .i64 0 ∧ w = wr) (fun _ _ => 0)
  case atStart => exact ⟨rfl, rfl⟩
  case round =>
    obtain ⟨rfl, rfl⟩ := hrel
    go_wp2_with fail
    go_end0
    exact ⟨⟨_, rfl⟩, rfl⟩
set_option maxRecDepth 20000 in
theorem fillNode_any {w : World} {k n : Nat} {s5 : Value} (hk : BookAt w k n (.slice none 0 0) (.slice none 0 0) s5) : Calls Tryd.prog 23 #[.pointer (some ⟨k, 0, none⟩)] w fun e w' => (∃ v, e = .returned v) ∧ w' = w := by
  have d1 := hk.cell 11
  simp only [bookRow, List.getElem?_toArray, List.getElem?_cons_zero, List.getElem?_cons_succ] at d1
  clear hk
  go_enter Tryd.func23, Tryd.ntmps23
  go_wp2_with fail
  go_loopw [2] (fun i wr => i = .int .i64 0 ∧ w = wr) (fun _ _ => 0)
  case atStart => exact ⟨rfl, rfl⟩
  case round =>
    obtain ⟨rfl, rfl⟩ := hrel
    go_wp2_with fail
    go_end0
    exact ⟨⟨_, rfl⟩, rfl⟩
set_option maxRecDepth 20000 in
theorem fillJob_any {w : World} {k n : Nat} {s5 : Value} (hk : BookAt w k n (.slice none 0 0) (.slice none 0 0) s5) : Calls Tryd.prog 24 #[.pointer (some ⟨k, 0, none⟩)] w fun e w' => (∃ v, e = .returned v) ∧ w' = w := by
  have d1 := hk.cell 12
  simp only [bookRow, List.getElem?_toArray, List.getElem?_cons_zero, List.getElem?_cons_succ] at d1
  clear hk
  go_enter Tryd.func24, Tryd.ntmps24
  go_wp2_with fail
  go_loopw [2] (fun i wr => i = .int .i64 0 ∧ w = wr) (fun _ _ => 0)
  case atStart => exact ⟨rfl, rfl⟩
  case round =>
    obtain ⟨rfl, rfl⟩ := hrel
    go_wp2_with fail
    go_end0
    exact ⟨⟨_, rfl⟩, rfl⟩
set_option maxRecDepth 20000 in
theorem growByte_any {w : World} {k n : Nat} {s5 : Value} (hk : BookAt w k n (.slice none 0 0) (.slice none 0 0) s5) : Calls Tryd.prog 25 #[.pointer (some ⟨k, 0, none⟩)] w fun e w' => (∃ v, e = .returned v) ∧ w' = w := by
  have d1 := hk.cell 1
  simp only [bookRow, List.getElem?_toArray, List.getElem?_cons_zero, List.getElem?_cons_succ] at d1
  clear hk
  go_enter Tryd.func25, Tryd.ntmps25
  go_wp2_with fail
  go_loopw [2] (fun i wr => i = .int .i64 0 ∧ w = wr) (fun _ _ => 0)
  case atStart => exact ⟨rfl, rfl⟩
  case round =>
    obtain ⟨rfl, rfl⟩ := hrel
    go_wp2_with fail
    go_end0
    exact ⟨⟨_, rfl⟩, rfl⟩
set_option maxRecDepth 20000 in
theorem growInt32_any {w : World} {k n : Nat} {s5 : Value} (hk : BookAt w k n (.slice none 0 0) (.slice none 0 0) s5) : Calls Tryd.prog 26 #[.pointer (some ⟨k, 0, none⟩)] w fun e w' => (∃ v, e = .returned v) ∧ w' = w := by
  have d1 := hk.cell 2
  simp only [bookRow, List.getElem?_toArray, List.getElem?_cons_zero, List.getElem?_cons_succ] at d1
  clear hk
  go_enter Tryd.func26, Tryd.ntmps26
  go_wp2_with fail
  go_loopw [2] (fun i wr => i = .int .i64 0 ∧ w = wr) (fun _ _ => 0)
  case atStart => exact ⟨rfl, rfl⟩
  case round =>
    obtain ⟨rfl, rfl⟩ := hrel
    go_wp2_with fail
    go_end0
    exact ⟨⟨_, rfl⟩, rfl⟩
set_option maxRecDepth 20000 in
theorem growNum_any {w : World} {k n : Nat} {s5 : Value} (hk : BookAt w k n (.slice none 0 0) (.slice none 0 0) s5) : Calls Tryd.prog 27 #[.pointer (some ⟨k, 0, none⟩)] w fun e w' => (∃ v, e = .returned v) ∧ w' = w := by
  have d1 := hk.cell 3
  simp only [bookRow, List.getElem?_toArray, List.getElem?_cons_zero, List.getElem?_cons_succ] at d1
  clear hk
  go_enter Tryd.func27, Tryd.ntmps27
  go_wp2_with fail
  go_loopw [2] (fun i wr => i = .int .i64 0 ∧ w = wr) (fun _ _ => 0)
  case atStart => exact ⟨rfl, rfl⟩
  case round =>
    obtain ⟨rfl, rfl⟩ := hrel
    go_wp2_with fail
    go_end0
    exact ⟨⟨_, rfl⟩, rfl⟩
set_option maxRecDepth 20000 in
theorem growBool_any {w : World} {k n : Nat} {s5 : Value} (hk : BookAt w k n (.slice none 0 0) (.slice none 0 0) s5) : Calls Tryd.prog 28 #[.pointer (some ⟨k, 0, none⟩)] w fun e w' => (∃ v, e = .returned v) ∧ w' = w := by
  have d1 := hk.cell 4
  simp only [bookRow, List.getElem?_toArray, List.getElem?_cons_zero, List.getElem?_cons_succ] at d1
  clear hk
  go_enter Tryd.func28, Tryd.ntmps28
  go_wp2_with fail
  go_loopw [2] (fun i wr => i = .int .i64 0 ∧ w = wr) (fun _ _ => 0)
  case atStart => exact ⟨rfl, rfl⟩
  case round =>
    obtain ⟨rfl, rfl⟩ := hrel
    go_wp2_with fail
    go_end0
    exact ⟨⟨_, rfl⟩, rfl⟩
set_option maxRecDepth 20000 in
theorem growToken_any {w : World} {k n : Nat} {s5 : Value} (hk : BookAt w k n (.slice none 0 0) (.slice none 0 0) s5) : Calls Tryd.prog 30 #[.pointer (some ⟨k, 0, none⟩)] w fun e w' => (∃ v, e = .returned v) ∧ w' = w := by
  have d1 := hk.cell 6
  simp only [bookRow, List.getElem?_toArray, List.getElem?_cons_zero, List.getElem?_cons_succ] at d1
  clear hk
  go_enter Tryd.func30, Tryd.ntmps30
  go_wp2_with fail
  go_loopw [2] (fun i wr => i = .int .i64 0 ∧ w = wr) (fun _ _ => 0)
  case atStart => exact ⟨rfl, rfl⟩
  case round =>
    obtain ⟨rfl, rfl⟩ := hrel
    go_wp2_with fail
    go_end0
    exact ⟨⟨_, rfl⟩, rfl⟩
set_option maxRecDepth 20000 in
theorem growTenant_any {w : World} {k n : Nat} {s5 : Value} (hk : BookAt w k n (.slice none 0 0) (.slice none 0 0) s5) : Calls Tryd.prog 31 #[.pointer (some ⟨k, 0, none⟩)] w fun e w' => (∃ v, e = .returned v) ∧ w' = w := by
  have d1 := hk.cell 7
  simp only [bookRow, List.getElem?_toArray, List.getElem?_cons_zero, List.getElem?_cons_succ] at d1
  clear hk
  go_enter Tryd.func31, Tryd.ntmps31
  go_wp2_with fail
  go_loopw [2] (fun i wr => i = .int .i64 0 ∧ w = wr) (fun _ _ => 0)
  case atStart => exact ⟨rfl, rfl⟩
  case round =>
    obtain ⟨rfl, rfl⟩ := hrel
    go_wp2_with fail
    go_end0
    exact ⟨⟨_, rfl⟩, rfl⟩
set_option maxRecDepth 20000 in
theorem growRat_any {w : World} {k n : Nat} {s5 : Value} (hk : BookAt w k n (.slice none 0 0) (.slice none 0 0) s5) : Calls Tryd.prog 32 #[.pointer (some ⟨k, 0, none⟩)] w fun e w' => (∃ v, e = .returned v) ∧ w' = w := by
  have d1 := hk.cell 8
  simp only [bookRow, List.getElem?_toArray, List.getElem?_cons_zero, List.getElem?_cons_succ] at d1
  clear hk
  go_enter Tryd.func32, Tryd.ntmps32
  go_wp2_with fail
  go_loopw [2] (fun i wr => i = .int .i64 0 ∧ w = wr) (fun _ _ => 0)
  case atStart => exact ⟨rfl, rfl⟩
  case round =>
    obtain ⟨rfl, rfl⟩ := hrel
    go_wp2_with fail
    go_end0
    exact ⟨⟨_, rfl⟩, rfl⟩
set_option maxRecDepth 20000 in
theorem growVar_any {w : World} {k n : Nat} {s5 : Value} (hk : BookAt w k n (.slice none 0 0) (.slice none 0 0) s5) : Calls Tryd.prog 33 #[.pointer (some ⟨k, 0, none⟩)] w fun e w' => (∃ v, e = .returned v) ∧ w' = w := by
  have d1 := hk.cell 9
  simp only [bookRow, List.getElem?_toArray, List.getElem?_cons_zero, List.getElem?_cons_succ] at d1
  clear hk
  go_enter Tryd.func33, Tryd.ntmps33
  go_wp2_with fail
  go_loopw [2] (fun i wr => i = .int .i64 0 ∧ w = wr) (fun _ _ => 0)
  case atStart => exact ⟨rfl, rfl⟩
  case round =>
    obtain ⟨rfl, rfl⟩ := hrel
    go_wp2_with fail
    go_end0
    exact ⟨⟨_, rfl⟩, rfl⟩
set_option maxRecDepth 20000 in
theorem growRow_any {w : World} {k n : Nat} {s5 : Value} (hk : BookAt w k n (.slice none 0 0) (.slice none 0 0) s5) : Calls Tryd.prog 34 #[.pointer (some ⟨k, 0, none⟩)] w fun e w' => (∃ v, e = .returned v) ∧ w' = w := by
  have d1 := hk.cell 10
  simp only [bookRow, List.getElem?_toArray, List.getElem?_cons_zero, List.getElem?_cons_succ] at d1
  clear hk
  go_enter Tryd.func34, Tryd.ntmps34
  go_wp2_with fail
  go_loopw [2] (fun i wr => i = .int .i64 0 ∧ w = wr) (fun _ _ => 0)
  case atStart => exact ⟨rfl, rfl⟩
  case round =>
    obtain ⟨rfl, rfl⟩ := hrel
    go_wp2_with fail
    go_end0
    exact ⟨⟨_, rfl⟩, rfl⟩
set_option maxRecDepth 20000 in
theorem growNode_any {w : World} {k n : Nat} {s5 : Value} (hk : BookAt w k n (.slice none 0 0) (.slice none 0 0) s5) : Calls Tryd.prog 35 #[.pointer (some ⟨k, 0, none⟩)] w fun e w' => (∃ v, e = .returned v) ∧ w' = w := by
  have d1 := hk.cell 11
  simp only [bookRow, List.getElem?_toArray, List.getElem?_cons_zero, List.getElem?_cons_succ] at d1
  clear hk
  go_enter Tryd.func35, Tryd.ntmps35
  go_wp2_with fail
  go_loopw [2] (fun i wr => i = .int .i64 0 ∧ w = wr) (fun _ _ => 0)
  case atStart => exact ⟨rfl, rfl⟩
  case round =>
    obtain ⟨rfl, rfl⟩ := hrel
    go_wp2_with fail
    go_end0
    exact ⟨⟨_, rfl⟩, rfl⟩
set_option maxRecDepth 20000 in
theorem growJob_any {w : World} {k n : Nat} {s5 : Value} (hk : BookAt w k n (.slice none 0 0) (.slice none 0 0) s5) : Calls Tryd.prog 36 #[.pointer (some ⟨k, 0, none⟩)] w fun e w' => (∃ v, e = .returned v) ∧ w' = w := by
  have d1 := hk.cell 12
  simp only [bookRow, List.getElem?_toArray, List.getElem?_cons_zero, List.getElem?_cons_succ] at d1
  clear hk
  go_enter Tryd.func36, Tryd.ntmps36
  go_wp2_with fail
  go_loopw [2] (fun i wr => i = .int .i64 0 ∧ w = wr) (fun _ _ => 0)
  case atStart => exact ⟨rfl, rfl⟩
  case round =>
    obtain ⟨rfl, rfl⟩ := hrel
    go_wp2_with fail
    go_end0
    exact ⟨⟨_, rfl⟩, rfl⟩
set_option maxRecDepth 20000 in
theorem lookByte_any {w : World} {k n : Nat} {s5 : Value} (hk : BookAt w k n (.slice none 0 0) (.slice none 0 0) s5) : Calls Tryd.prog 37 #[.pointer (some ⟨k, 0, none⟩)] w fun e w' => e = .returned (.bool true) ∧ w' = w := by
  have d1 := hk.cell 1
  simp only [bookRow, List.getElem?_toArray, List.getElem?_cons_zero, List.getElem?_cons_succ] at d1
  clear hk
  go_enter Tryd.func37, Tryd.ntmps37
  go_wp2_with fail
  go_loopw [3] (fun i wr => i = .int .i64 0 ∧ w = wr) (fun _ _ => 0)
  case atStart => exact ⟨rfl, rfl⟩
  case round =>
    obtain ⟨rfl, rfl⟩ := hrel
    go_wp2_with fail
    go_ret
    exact ⟨rfl, rfl⟩
set_option maxRecDepth 20000 in
theorem lookInt32_any {w : World} {k n : Nat} {s5 : Value} (hk : BookAt w k n (.slice none 0 0) (.slice none 0 0) s5) : Calls Tryd.prog 38 #[.pointer (some ⟨k, 0, none⟩)] w fun e w' => e = .returned (.bool true) ∧ w' = w := by
  have d1 := hk.cell 2
  simp only [bookRow, List.getElem?_toArray, List.getElem?_cons_zero, List.getElem?_cons_succ] at d1
  clear hk
  go_enter Tryd.func38, Tryd.ntmps38
  go_wp2_with fail
  go_loopw [3] (fun i wr => i = .int .i64 0 ∧ w = wr) (fun _ _ => 0)
  case atStart => exact ⟨rfl, rfl⟩
  case round =>
    obtain ⟨rfl, rfl⟩ := hrel
    go_wp2_with fail
    go_ret
    exact ⟨rfl, rfl⟩
set_option maxRecDepth 20000 in
theorem lookNum_any {w : World} {k n : Nat} {s5 : Value} (hk : BookAt w k n (.slice none 0 0) (.slice none 0 0) s5) : Calls Tryd.prog 39 #[.pointer (some ⟨k, 0, none⟩)] w fun e w' => e = .returned (.bool true) ∧ w' = w := by
  have d1 := hk.cell 3
  simp only [bookRow, List.getElem?_toArray, List.getElem?_cons_zero, List.getElem?_cons_succ] at d1
  clear hk
  go_enter Tryd.func39, Tryd.ntmps39
  go_wp2_with fail
  go_loopw [3] (fun i wr => i = .int .i64 0 ∧ w = wr) (fun _ _ => 0)
  case atStart => exact ⟨rfl, rfl⟩
  case round =>
    obtain ⟨rfl, rfl⟩ := hrel
    go_wp2_with fail
    go_ret
    exact ⟨rfl, rfl⟩
set_option maxRecDepth 20000 in
theorem lookBool_any {w : World} {k n : Nat} {s5 : Value} (hk : BookAt w k n (.slice none 0 0) (.slice none 0 0) s5) : Calls Tryd.prog 40 #[.pointer (some ⟨k, 0, none⟩)] w fun e w' => e = .returned (.bool true) ∧ w' = w := by
  have d1 := hk.cell 4
  simp only [bookRow, List.getElem?_toArray, List.getElem?_cons_zero, List.getElem?_cons_succ] at d1
  clear hk
  go_enter Tryd.func40, Tryd.ntmps40
  go_wp2_with fail
  go_loopw [3] (fun i wr => i = .int .i64 0 ∧ w = wr) (fun _ _ => 0)
  case atStart => exact ⟨rfl, rfl⟩
  case round =>
    obtain ⟨rfl, rfl⟩ := hrel
    go_wp2_with fail
    go_ret
    exact ⟨rfl, rfl⟩
set_option maxRecDepth 20000 in
theorem lookToken_any {w : World} {k n : Nat} {s5 : Value} (hk : BookAt w k n (.slice none 0 0) (.slice none 0 0) s5) : Calls Tryd.prog 42 #[.pointer (some ⟨k, 0, none⟩)] w fun e w' => e = .returned (.bool true) ∧ w' = w := by
  have d1 := hk.cell 6
  simp only [bookRow, List.getElem?_toArray, List.getElem?_cons_zero, List.getElem?_cons_succ] at d1
  clear hk
  go_enter Tryd.func42, Tryd.ntmps42
  go_wp2_with fail
  go_loopw [3] (fun i wr => i = .int .i64 0 ∧ w = wr) (fun _ _ => 0)
  case atStart => exact ⟨rfl, rfl⟩
  case round =>
    obtain ⟨rfl, rfl⟩ := hrel
    go_wp2_with fail
    go_ret
    exact ⟨rfl, rfl⟩
set_option maxRecDepth 20000 in
theorem lookTenant_any {w : World} {k n : Nat} {s5 : Value} (hk : BookAt w k n (.slice none 0 0) (.slice none 0 0) s5) : Calls Tryd.prog 43 #[.pointer (some ⟨k, 0, none⟩)] w fun e w' => e = .returned (.bool true) ∧ w' = w := by
  have d1 := hk.cell 7
  simp only [bookRow, List.getElem?_toArray, List.getElem?_cons_zero, List.getElem?_cons_succ] at d1
  clear hk
  go_enter Tryd.func43, Tryd.ntmps43
  go_wp2_with fail
  go_loopw [3] (fun i wr => i = .int .i64 0 ∧ w = wr) (fun _ _ => 0)
  case atStart => exact ⟨rfl, rfl⟩
  case round =>
    obtain ⟨rfl, rfl⟩ := hrel
    go_wp2_with fail
    go_ret
    exact ⟨rfl, rfl⟩
set_option maxRecDepth 20000 in
theorem lookRat_any {w : World} {k n : Nat} {s5 : Value} (hk : BookAt w k n (.slice none 0 0) (.slice none 0 0) s5) : Calls Tryd.prog 44 #[.pointer (some ⟨k, 0, none⟩)] w fun e w' => e = .returned (.bool true) ∧ w' = w := by
  have d1 := hk.cell 8
  simp only [bookRow, List.getElem?_toArray, List.getElem?_cons_zero, List.getElem?_cons_succ] at d1
  clear hk
  go_enter Tryd.func44, Tryd.ntmps44
  go_wp2_with fail
  go_loopw [3] (fun i wr => i = .int .i64 0 ∧ w = wr) (fun _ _ => 0)
  case atStart => exact ⟨rfl, rfl⟩
  case round =>
    obtain ⟨rfl, rfl⟩ := hrel
    go_wp2_with fail
    go_ret
    exact ⟨rfl, rfl⟩
set_option maxRecDepth 20000 in
theorem lookVar_any {w : World} {k n : Nat} {s5 : Value} (hk : BookAt w k n (.slice none 0 0) (.slice none 0 0) s5) : Calls Tryd.prog 45 #[.pointer (some ⟨k, 0, none⟩)] w fun e w' => e = .returned (.bool true) ∧ w' = w := by
  have d1 := hk.cell 9
  simp only [bookRow, List.getElem?_toArray, List.getElem?_cons_zero, List.getElem?_cons_succ] at d1
  clear hk
  go_enter Tryd.func45, Tryd.ntmps45
  go_wp2_with fail
  go_loopw [3] (fun i wr => i = .int .i64 0 ∧ w = wr) (fun _ _ => 0)
  case atStart => exact ⟨rfl, rfl⟩
  case round =>
    obtain ⟨rfl, rfl⟩ := hrel
    go_wp2_with fail
    go_ret
    exact ⟨rfl, rfl⟩
set_option maxRecDepth 20000 in
theorem lookRow_any {w : World} {k n : Nat} {s5 : Value} (hk : BookAt w k n (.slice none 0 0) (.slice none 0 0) s5) : Calls Tryd.prog 46 #[.pointer (some ⟨k, 0, none⟩)] w fun e w' => e = .returned (.bool true) ∧ w' = w := by
  have d1 := hk.cell 10
  simp only [bookRow, List.getElem?_toArray, List.getElem?_cons_zero, List.getElem?_cons_succ] at d1
  clear hk
  go_enter Tryd.func46, Tryd.ntmps46
  go_wp2_with fail
  go_loopw [3] (fun i wr => i = .int .i64 0 ∧ w = wr) (fun _ _ => 0)
  case atStart => exact ⟨rfl, rfl⟩
  case round =>
    obtain ⟨rfl, rfl⟩ := hrel
    go_wp2_with fail
    go_ret
    exact ⟨rfl, rfl⟩
set_option maxRecDepth 20000 in
theorem lookNode_any {w : World} {k n : Nat} {s5 : Value} (hk : BookAt w k n (.slice none 0 0) (.slice none 0 0) s5) : Calls Tryd.prog 47 #[.pointer (some ⟨k, 0, none⟩)] w fun e w' => e = .returned (.bool true) ∧ w' = w := by
  have d1 := hk.cell 11
  simp only [bookRow, List.getElem?_toArray, List.getElem?_cons_zero, List.getElem?_cons_succ] at d1
  clear hk
  go_enter Tryd.func47, Tryd.ntmps47
  go_wp2_with fail
  go_loopw [3] (fun i wr => i = .int .i64 0 ∧ w = wr) (fun _ _ => 0)
  case atStart => exact ⟨rfl, rfl⟩
  case round =>
    obtain ⟨rfl, rfl⟩ := hrel
    go_wp2_with fail
    go_ret
    exact ⟨rfl, rfl⟩
set_option maxRecDepth 20000 in
theorem lookJob_any {w : World} {k n : Nat} {s5 : Value} (hk : BookAt w k n (.slice none 0 0) (.slice none 0 0) s5) : Calls Tryd.prog 48 #[.pointer (some ⟨k, 0, none⟩)] w fun e w' => e = .returned (.bool true) ∧ w' = w := by
  have d1 := hk.cell 12
  simp only [bookRow, List.getElem?_toArray, List.getElem?_cons_zero, List.getElem?_cons_succ] at d1
  clear hk
  go_enter Tryd.func48, Tryd.ntmps48
  go_wp2_with fail
  go_loopw [3] (fun i wr => i = .int .i64 0 ∧ w = wr) (fun _ _ => 0)
  case atStart => exact ⟨rfl, rfl⟩
  case round =>
    obtain ⟨rfl, rfl⟩ := hrel
    go_wp2_with fail
    go_ret
    exact ⟨rfl, rfl⟩
end Go.Proofs.YtjjppbfknjeddaaDoor
