/- A sum's text, as the program and as the document write it: each byte two signs. -/
import Derived.Test.YtbmopcmhokpchaaDoorTwin
namespace Go.Proofs.YtbmopcmhokpchaaDoor
open Go.RowKit
set_option linter.unusedVariables false
attribute [local go_sem ↓] Go.wp_at_zero Go.wp_at_succ
def hexd (n : Nat) : UInt8 := if n < 10 then UInt8.ofNat (48 + n) else UInt8.ofNat (87 + n)
def hexs (cs : List UInt8) : List UInt8 := cs.flatMap fun c => [hexd (c.toNat / 16), hexd (c.toNat % 16)]
theorem hexs_length (cs : List UInt8) : (hexs cs).length = 2 * cs.length := by
  induction cs with
  | nil => rfl
  | cons c cs ih => simp [hexs] at ih ⊢; omega
theorem hexs_take_succ {cs : List UInt8} {k : Nat} (hk : k < cs.length) : hexs (cs.take (k + 1)) = hexs (cs.take k) ++ [hexd ((cs.getD k 0).toNat / 16), hexd ((cs.getD k 0).toNat % 16)] := by
  have e : cs.getD k 0 = cs[k] := by simp [List.getD, hk]
  rw [List.take_succ_eq_append_getElem hk, e]
  unfold hexs
  rw [List.flatMap_append]
  rfl
def digitsBytes : ByteArray := { data := #[48, 49, 50, 51, 52, 53, 54, 55, 56, 57, 97, 98, 99, 100, 101, 102] }
theorem digits_all : ∀ n : Fin 16, digitsBytes[n.val]? = some (hexd n.val) := by decide
theorem run_digit {P : Program} {t : TypeId} (ht : P.underlying t = some .string) (k : IntKind) {n : Nat} (hn : n < 16) (w : World) :
    (Instr.index t (.string { data := #[48, 49, 50, 51, 52, 53, 54, 55, 56, 57, 97, 98, 99, 100, 101, 102] }) (.int k n)).run P w = .ok (.int .u8 ((hexd n).toNat : Int)) w := by
  have h := digits_all ⟨n, hn⟩
  unfold digitsBytes at h
  simp only [Instr.index, asIntOf, Sem.run_bind, Sem.run_pure, Result.andThen_ok, run_underlying ht]
  have hw : IntKind.i64.wrap (n : Int) = n := IntWalk.i64_in _ ⟨by omega, by omega⟩
  simp [h]
theorem digits_cut : ∀ n : Fin 16, digitsBytes.extract n.val (n.val + 1) = { data := #[hexd n.val] } := by decide
theorem run_digit_slice {P : Program} {t : TypeId} (ht : P.underlying t = some .string) (k : IntKind) {n : Nat} (hn : n < 16) (w : World) :
    (Instr.slice t (.string { data := #[48, 49, 50, 51, 52, 53, 54, 55, 56, 57, 97, 98, 99, 100, 101, 102] }) (some (.int k n)) (some (.int k ((n : Int) + 1))) none).run P w = .ok (.string { data := #[hexd n] }) w := by
  have h := digits_cut ⟨n, hn⟩
  unfold digitsBytes at h
  rw [run_slice_string_if w t _ k k (n : Int) ((n : Int) + 1) ht]
  have hs : (ByteArray.size { data := #[48, 49, 50, 51, 52, 53, 54, 55, 56, 57, 97, 98, 99, 100, 101, 102] } : Nat) = 16 := rfl
  rw [if_pos (by rw [hs]; omega), if_pos (by omega)]
  have e1 : ((n : Int) + 1).toNat = n + 1 := by omega
  rw [e1, Int.toNat_natCast]
  simp only at h
  rw [h]
theorem and15 (c : UInt8) : bits .and .u8 (c.toNat : Int) 15 = ((c.toNat % 16 : Nat) : Int) := by
  have h : ∀ c : Fin 256, bits .and .u8 ((c.val : Nat) : Int) 15 = ((c.val % 16 : Nat) : Int) := by decide +kernel
  exact h ⟨c.toNat, c.toNat_lt⟩
theorem Tryd.size_sum : (Tryd.prog.info? 33).map (·.size) = some 32 := by kernel_rfl
/-- An element of an array value. -/
theorem run_index_bytes {cs : List UInt8} (hl : cs.length = 32) (k : Nat) (w : World) (hk : k < 32) : (Instr.index 33 (.agg (cs.map bv).toArray) (.int .i64 k)).run Tryd.prog w = .ok (.int .u8 ((cs.getD k 0).toNat : Int)) w := by
  exact run_index_agg Tryd.underlying33 Tryd.underlying5 rfl (by kernel_rfl) hk (by simp [List.getD, show k < cs.length by omega, bv]) w
set_option maxHeartbeats 400000 in
set_option maxRecDepth 20000 in
theorem Text_any (cs : List UInt8) (hl : cs.length = 32) (w : World) :
    Calls Tryd.prog 12 #[.agg (cs.map bv).toArray] w fun e w' => e = .returned (.string ⟨(hexs cs).toArray⟩) ∧ Chg Non w w' := by
  have hsz : (Tryd.prog.info? 33).map (·.size) = some (cs.map bv).toArray.size := by rw [Tryd.size_sum]; simp [hl]
  obtain ⟨i0, hi, hz0, hz1, hz2⟩ := info_parts Tryd.info_u8
  have Hl := Lib.hid hl; clear hl
  have Hsz := Lib.hid hsz; clear hsz
  have Hi := Lib.hid hi; clear hi
  have Hz0 := Lib.hid hz0; clear hz0
  have Hz1 := Lib.hid hz1; clear hz1
  have Hz2 := Lib.hid hz2; clear hz2
  go_enter Tryd.func12, Tryd.ntmps12
  go_wp2_with (with_reducible refine wpList_load_row rfl 33 _ rfl _ rfl 33 _ _ _ (heap_alloc_new w _) Tryd.underlying33 rfl Hsz.out ?_)
  go_loopw [3, 7] (fun b i wr => ∃ k cap : Nat, ∃ ad, k ≤ 32 ∧ i = .int .i64 k ∧ b = .slice ad (2 * k) cap ∧ Own wr w.heap.size 5 1 ad (2 * k) cap ((hexs (cs.take k)).map bv) ∧ Chg Non w wr)
    (fun _ i _ => 32 - (intOf i).toNat)
  case atStart => exact ⟨0, 0, none, by omega, rfl, rfl, Own.nil _ _ _ _, (Chg.refl _ _).alloc _⟩
  case round =>
    obtain ⟨k, cap, ad, hk, rfl, rfl, hown, hchg⟩ := hrel
    have hsz1 := hchg.size
    have Hown := Lib.hid hown; clear hown
    by_cases hlt : k < 32
    · have hx : ∀ wx, (Instr.index 33 (.agg (cs.map bv).toArray) (.int .i64 k)).run Tryd.prog wx = .ok (.int .u8 ((cs.getD k 0).toNat : Int)) wx := fun wx => run_index_bytes Hl.out k wx hlt
      generalize hc : cs.getD k 0 = c at hx
      have hcb : (c.toNat : Int) < 256 := by have := c.toNat_lt; omega
      have Hc := Lib.hid hc; clear hc
      have hand : bits .and .u8 (c.toNat : Int) 15 = ((c.toNat : Int) % 16) := by rw [and15]; omega
      have hd1 : ∀ wx, (Instr.index 9 (.string { data := #[48, 49, 50, 51, 52, 53, 54, 55, 56, 57, 97, 98, 99, 100, 101, 102] }) (.int .u8 ((c.toNat : Int) / 16))).run Tryd.prog wx = .ok (.int .u8 ((hexd (c.toNat / 16)).toNat : Int)) wx := fun wx => run_digit Tryd.underlying9 .u8 (n := c.toNat / 16) (by omega) wx
      have hd2 : ∀ wx, (Instr.index 9 (.string { data := #[48, 49, 50, 51, 52, 53, 54, 55, 56, 57, 97, 98, 99, 100, 101, 102] }) (.int .u8 ((c.toNat : Int) % 16))).run Tryd.prog wx = .ok (.int .u8 ((hexd (c.toNat % 16)).toNat : Int)) wx := fun wx => run_digit Tryd.underlying9 .u8 (n := c.toNat % 16) (by omega) wx
      go_wp2
      go_region_held3 (fun w' => Chg Non w w') (first | exact hchg.drew | exact hchg.drew.alloc _ | exact hchg1' | skip) ((refine step_append_Own (by rfl) _ _ 29 29 (by rfl) w.heap.size 5 1 1 i0 (.int .u8 0) Tryd.underlying29 Hi.out Hz0.out Hz1.out rfl Hz2.out ad (2 * k) cap _ (by rfl) (Own.drew (Own.alloc Hown.out _)) _ 2 _ (by rfl) (Src.cells (w := World.drew (wr.alloc (.cells #[.int .u8 ((hexd (c.toNat / 16)).toNat : Int), .int .u8 ((hexd (c.toNat % 16)).toNat : Int)] 5))) Tryd.underlying29 (heap_alloc_new wr _) 2 1 2 (by rfl) (by simp [Value.oneCell'])) (by unfold maxLen; omega) (by omega) (by simp; omega) ?_; intro ao' cap' w1 hown1 hchg1 _ _; have hchg1' : Chg Non w w1 := Chg.next (Chg.drew (Chg.alloc hchg _)) hchg1 (fun j hj h => by have := (Own.lt Hown.out j h.1).1; omega)))
      all_goals
        have hown2 : Own w1 w.heap.size 5 1 ao' (2 * (k + 1)) cap' ((hexs (cs.take (k + 1))).map bv) := by
          rw [hexs_take_succ (by have := Hl.out; omega), Hc.out, List.map_append]; exact hown1
        clear hown1 hchg1
        go_wp2
        go_roundw
        case rel => exact ⟨k + 1, cap', ao', by omega, by go_num, rfl, hown2, hchg1'⟩
        case measure => simp [intOf]; omega
    · have HK : Hid (k = 32) := (show k = 32 by omega)
      obtain ⟨b, _, hrd⟩ := Rd.of_Own Hown.out
      have hcv := hrd.string Tryd.underlying29 Tryd.underlying5 Tryd.underlying9
      go_wp2
      go_ret
      refine ⟨?_, hchg⟩
      show Ending.returned (.string ⟨(hexs (cs.take k)).toArray⟩) = _
      rw [HK.out, List.take_of_length_le (by have := Hl.out; omega)]
set_option maxHeartbeats 400000 in
set_option maxRecDepth 20000 in
theorem refText_any (cs : List UInt8) (hl : cs.length = 32) (w : World) :
    Calls Tryd.prog 16 #[.agg (cs.map bv).toArray] w fun e w' => e = .returned (.string ⟨(hexs cs).toArray⟩) ∧ Chg Non w w' := by
  have Hl := Lib.hid hl; clear hl
  obtain ⟨w0, hw0⟩ : ∃ w0, w0 = w.alloc (.cells (cs.map bv).toArray 33) := ⟨_, rfl⟩
  have hblk : w0.heap[w.heap.size]? = some (.cells (cs.map bv).toArray 33 (0, 0)) := by rw [hw0]; exact heap_alloc_new w _
  have hchg : Chg Non w w0 := by rw [hw0]; exact (Chg.refl _ _).alloc _
  have Hblk := Lib.hid hblk; clear hblk
  go_enter Tryd.func16, Tryd.ntmps16
  go_wp2
  rw [← hw0]
  clear hw0
  go_loopw [4, 3] (fun i t wr => ∃ k : Nat, k ≤ 32 ∧ i = .int .i64 k ∧ t = .string ⟨(hexs (cs.take k)).toArray⟩ ∧ ∃ q, wr = w0.drewN q) (fun i _ _ => 32 - (intOf i).toNat)
  case atStart => exact ⟨0, by omega, rfl, rfl, 0, rfl⟩
  case round =>
    obtain ⟨k, hk, rfl, rfl, q, rfl⟩ := hrel
    by_cases hlt : k < 32
    · have d1 : w0.cell? ⟨w.heap.size, k, none⟩ = some (.int .u8 ((cs.getD k 0).toNat : Int)) := by
        rw [cell_of_row _ _ _ _ _ _ Hblk.out]
        have := Hl.out
        simp [List.getD, show k < cs.length by omega, bv]
      generalize hc : cs.getD k 0 = c at d1
      have Hc := Lib.hid hc; clear hc
      generalize hs : hexs (cs.take k) = s
      have hsl : s.length ≤ 64 := by rw [← hs, hexs_length, List.length_take]; omega
      have Hs := Lib.hid hs; clear hs
      have k0 : (0 : Int) ≤ (k : Int) := by omega
      have k1 : (k : Int) < 32 := by omega
      have c0 : (0 : Int) ≤ (c.toNat : Int) := by omega
      have c1 : (c.toNat : Int) < 256 := by have := c.toNat_lt; omega
      have v1 : IntKind.u8.wrap ((c.toNat : Int) / 16) = (c.toNat : Int) / 16 := IntWalk.u8_in _ ⟨by omega, by omega⟩
      have v2 : IntKind.u8.wrap ((c.toNat : Int) % 16) = (c.toNat : Int) % 16 := IntWalk.u8_in _ ⟨by omega, by omega⟩
      have v3 : (c.toNat : Int).tmod 16 = (c.toNat : Int) % 16 := Int.tmod_eq_emod_of_nonneg c0
      have w1 : IntKind.u8.wrap ((c.toNat : Int) / 16 + 1) = (c.toNat : Int) / 16 + 1 := IntWalk.u8_in _ ⟨by omega, by omega⟩
      have w2 : IntKind.u8.wrap ((c.toNat : Int) % 16 + 1) = (c.toNat : Int) % 16 + 1 := IntWalk.u8_in _ ⟨by omega, by omega⟩
      have s1 : ∀ wx, (Instr.slice 9 (.string { data := #[48, 49, 50, 51, 52, 53, 54, 55, 56, 57, 97, 98, 99, 100, 101, 102] }) (some (.int .u8 ((c.toNat : Int) / 16))) (some (.int .u8 ((c.toNat : Int) / 16 + 1))) none).run Tryd.prog wx = .ok (.string { data := #[hexd (c.toNat / 16)] }) wx := fun wx => run_digit_slice Tryd.underlying9 .u8 (n := c.toNat / 16) (by omega) wx
      have s2 : ∀ wx, (Instr.slice 9 (.string { data := #[48, 49, 50, 51, 52, 53, 54, 55, 56, 57, 97, 98, 99, 100, 101, 102] }) (some (.int .u8 ((c.toNat : Int) % 16))) (some (.int .u8 ((c.toNat : Int) % 16 + 1))) none).run Tryd.prog wx = .ok (.string { data := #[hexd (c.toNat % 16)] }) wx := fun wx => run_digit_slice Tryd.underlying9 .u8 (n := c.toNat % 16) (by omega) wx
      have a1 : ∀ wx, (Op.stringOp .add ⟨s.toArray⟩ ⟨#[hexd (c.toNat / 16)]⟩).run Tryd.prog wx = .ok (.string ⟨(s ++ [hexd (c.toNat / 16)]).toArray⟩) wx := fun wx => run_string_add_lists wx s [_] (by omega) (by simp)
      have a2 : ∀ wx, (Op.stringOp .add ⟨(s ++ [hexd (c.toNat / 16)]).toArray⟩ ⟨#[hexd (c.toNat % 16)]⟩).run Tryd.prog wx = .ok (.string ⟨(s ++ [hexd (c.toNat / 16)] ++ [hexd (c.toNat % 16)]).toArray⟩) wx := fun wx => run_string_add_lists wx (s ++ [_]) [_] (by simp; omega) (by simp)
      have A1 := Lib.hid a1
      go_wp2
      go_quiet (fail)
      go_wp2
      go_roundw
      case rel =>
        refine ⟨k + 1, by omega, by go_num, ?_, _, rfl⟩
        rw [hexs_take_succ (by have := Hl.out; omega), Hc.out, Hs.out]
      case measure => simp [intOf]; omega
    · have HK : Hid (k = 32) := (show k = 32 by omega)
      go_wp2
      go_ret
      refine ⟨?_, hchg.drewN q⟩
      show Ending.returned (.string ⟨(hexs (cs.take k)).toArray⟩) = _
      rw [HK.out, List.take_of_length_le (by have := Hl.out; omega)]
end Go.Proofs.YtbmopcmhokpchaaDoor
