/- Numbers as texts: strconv.FormatUint at base 10, and the document's digits. -/
import Derived.Test.YtbmopcmhokpchaaDoorSealShelf
import Derived.Test.YtbmopcmhokpchaaDoorCuts
import Derived.Lib.AppendIntMem
import Derived.Lib.ItoaMem
namespace Go.Proofs.YtbmopcmhokpchaaDoor
open Go.RowKit Go.Sort Go.Lib
set_option linter.unusedVariables false
theorem chg_grow (w : World) (os : Array Obj) : Chg Non w (grow w os) := ⟨rfl, rfl, rfl, by simp [grow], fun i hi _ => heap_grow_old w os hi⟩
set_option maxRecDepth 100000 in
set_option maxHeartbeats 1600000 in
theorem FormatUint_in {u : Nat} (hu64 : u < 18446744073709551616) (w : World) (htab : Lib.TabIs Tryd.prog w "internal/strconv.uint64pow10" .u64 Lib.pow10Tab) :
    Calls Tryd.prog 22 #[.int .u64 (u : Int), .int .i64 10] w fun e w' => e = .returned (.string ⟨(Lib.decDigits u).toArray⟩) ∧ Chg Non w w' := by
  by_cases hs : u < 100
  · have c0 : IntKind.i64.wrap (u : Int) = (u : Int) := IntWalk.i64_in _ ⟨by omega, by omega⟩
    go_enter Tryd.func22, Tryd.ntmps22
    go_wp2_with (go_at_call 29; refine Calls.mono (Any.internal_strconv_small Tryd.lays283 u hs _) ?_; rintro e w' ⟨rfl, rfl⟩)
    go_ret
    exact ⟨rfl, Chg.refl _ _⟩
  · have hu1 : 1 ≤ u := by omega
    have hnd20 : Lib.nDigits u ≤ 20 := by have := Lib.numDigits_eq u hu1 hu64; split at this <;> omega
    have hH0 := Lib.holds_zero0 w 60 (Lib.nDigits u) (by omega)
    have hfmt := Any.internal_strconv_formatBase10 Tryd.lays285 w.heap.size 0 24 u (Array.replicate (Lib.nDigits u) 0) (w.alloc (.cells Lib.zeros24 60)) hH0 (by rw [Array.size_replicate]; exact Lib.lt_pow_nDigits u) hu64 (by rw [Array.size_replicate]; omega)
    rw [Array.size_replicate] at hfmt
    have HF := Lib.hid hfmt; have HH0 := Lib.hid hH0
    clear hfmt hH0
    have hal : Tryd.prog.arrayLen 60 = 24 := by kernel_rfl
    have hsl : ∀ W, (Instr.sliceAt 60 (.pointer (some ⟨w.heap.size, 0, none⟩)) none (some (.int .i64 (Lib.nDigits u : Int))) none).run Tryd.prog W = .ok (.slice (some ⟨w.heap.size, 0, none⟩) (Lib.nDigits u) 24) W := fun W => by
      rw [run_sliceAt_array_h W 60 ⟨w.heap.size, 0, none⟩ (by kernel_rfl) .i64 (Lib.nDigits u : Int) (by omega) (by rw [hal]; omega)]
      rw [hal, run_sizeOf (P := Tryd.prog) (e := Tryd.prog.elem 60) (s := 1) (by kernel_rfl)]
      simp [slicedAt, Addr.add]
    clear hal
    go_enter Tryd.func22, Tryd.ntmps22
    go_wp2_with (first
      | (go_at_call 30; refine Calls.mono (Any.internal_strconv_numDigits Tryd.laysM284 u hu1 hu64 _ (Lib.tabIs_alloc htab _)) ?_; rintro e w' ⟨rfl, rfl⟩))
    refine Calls.mono HF.out ?_
    rintro e w' ⟨rfl, k, v', dk, rfl, hF⟩
    have hcv : ∀ W', W' = (putRow (fun (b : UInt8) => Value.int .u8 (b.toNat : Int)) (w.alloc (.cells Lib.zeros24 60)) w.heap.size 0 dk).drewN k → (convert 29 9 (.slice (some ⟨w.heap.size, 0, none⟩) (Lib.nDigits u) 24)).run Tryd.prog W' = .ok (.string ⟨(Lib.decDigits u).toArray⟩) W' := by
      rintro _ rfl
      have h := run_convert_bytes_back (P := Tryd.prog) ((putRow (fun (b : UInt8) => Value.int .u8 (b.toNat : Int)) (w.alloc (.cells Lib.zeros24 60)) w.heap.size 0 dk).drewN k) 29 9 5 ⟨w.heap.size, 0, none⟩ 24 (Lib.decDigits u) Tryd.underlying29 Tryd.underlying5 Tryd.underlying9 (fun j hj => by
        rw [Lib.row_is_numeral hF j hj, Lib.add_plain, World.cell?_drewN]
        exact cell?_putRow (fun (b : UInt8) => Value.int .u8 (b.toNat : Int)) _ w.heap.size 0 _ dk HH0.out (by rw [hF.size, Array.size_replicate]) j (by rw [hF.size]; rw [Lib.decDigits_length] at hj; exact hj))
      rw [Lib.decDigits_length] at h
      exact h
    have hcg : Chg Non w ((putRow (fun (b : UInt8) => Value.int .u8 (b.toNat : Int)) (w.alloc (.cells Lib.zeros24 60)) w.heap.size 0 dk).drewN k) := by
      rw [alloc_eq_grow]
      obtain ⟨os', _, e⟩ := putRow_grow_new (fun (b : UInt8) => Value.int .u8 (b.toNat : Int)) w #[.cells Lib.zeros24 60] w.heap.size 0 dk (Nat.le_refl _)
      rw [e]
      exact (chg_grow w os').drewN k
    obtain ⟨W, hW⟩ : ∃ W, W = (putRow (fun (b : UInt8) => Value.int .u8 (b.toNat : Int)) (w.alloc (.cells Lib.zeros24 60)) w.heap.size 0 dk).drewN k := ⟨_, rfl⟩
    have hcv' := hcv W hW
    rw [← hW] at hcg ⊢
    have HC := Lib.hid hcg
    clear hW hcv hcg hF HF HH0
    go_wp2_with fail
    go_ret
    exact ⟨rfl, HC.out⟩
theorem FormatUint_any {u : Nat} (hu64 : u < 18446744073709551616) (w : World) (htab : Lib.TabIs Tryd.prog w "internal/strconv.uint64pow10" .u64 Lib.pow10Tab) :
    Calls Tryd.prog 15 #[.int .u64 (u : Int), .int .i64 10] w fun e w' => e = .returned (.string ⟨(Lib.decDigits u).toArray⟩) ∧ Chg Non w w' := by
  go_enter Tryd.func15, Tryd.ntmps15
  go_wp2_with (go_at_call 22; refine Calls.mono (FormatUint_in hu64 _ htab) ?_; rintro e w' ⟨rfl, hc⟩; have HC := Lib.hid hc; clear hc)
  go_ret
  exact ⟨rfl, HC.out⟩
end Go.Proofs.YtbmopcmhokpchaaDoor
