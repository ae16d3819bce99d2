/- The table of 64 words, and the first state. -/
import Derived.Test.YtbmopcmhokpchaaGreatDoorShaP
import Derived.Great.BuildSlice
namespace Go.Proofs.YtbmopcmhokpchaaGreatDoor
open Go.RowKit
set_option linter.unusedVariables false
def stepsV : Array Value := (kList.map wv).toArray
set_option maxRecDepth 100000 in
theorem begin_any (w : World) : Calls Tryz.prog 78 #[] w fun e w' => e = .returned (.agg begS.arr) ∧ Chg Non w w' := by
  go_enter Tryz.func78, Tryz.ntmps78
  go_wp2_with fail
  refine bodyPost_ret (v := .agg begS.arr) (by simp [results, Tryz.results78, go_sem]; kernel_rfl) rfl ⟨rfl, (Chg.refl _ _).alloc _⟩
set_option maxRecDepth 100000 in
theorem steps_any (w : World) : Calls Tryz.prog 108 #[] w fun e w' => e = .returned (.agg stepsV) ∧ Chg Non w w' := by
  go_enter Tryz.func108, Tryz.ntmps108
  go_wp2_with (first
    | (refine wpList_buildTo rfl 169 _ rfl (some 1) rfl stepsV (by kernel_rfl) ?_)
    | (refine wpList_store_rowTo rfl 169 (.tmp 0) (.tmp 1) rfl rfl w.heap.size stepsV rfl rfl 169 _ (heap_alloc_new w _) (by kernel_rfl) (by kernel_rfl) (by kernel_rfl) ?_))
  refine bodyPost_ret (v := .agg stepsV) (results_cell_row (fn := Tryz.f108) (p := 0) (ty := 169) Tryz.results108 _ _ w.heap.size 169 stepsV (0, 0) (.array 64 80) (by rfl) (setRow_heap _ _ _ _ _ _ (heap_alloc_new w _)) Tryz.underlying169 rfl (by kernel_rfl)) rfl ⟨rfl, ((Chg.refl _ _).alloc _).setRow (.inl (Nat.le_refl _)) _⟩
theorem stepsV_get {k : Nat} (hk : k < 64) : stepsV[k]? = some (wv (kList.getD k 0)) := by
  unfold stepsV
  have h : k < kList.length := hk
  rw [List.getElem?_toArray, List.getElem?_map, List.getElem?_eq_getElem h]
  simp [List.getD, h]
theorem run_index_steps {k : Nat} (hk : k < 64) (w : World) : (Instr.index 169 (.agg stepsV) (.int .i64 k)).run Tryz.prog w = .ok (.int .u32 (wn (kList.getD k 0))) w :=
  run_index_agg Tryz.underlying169 Tryz.underlying80 rfl (by kernel_rfl) hk (stepsV_get hk) w
end Go.Proofs.YtbmopcmhokpchaaGreatDoor
