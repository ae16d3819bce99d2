/- Contracts of the law's helpers on bytes: SameBytes, TwinBytes, LeftBytes. -/
import Derived.Test.YtjjppbfknjeddaaGreatDoorRows
import Derived.Test.YtjjppbfknjeddaaGreatDoorLib
import Derived.Deep.RegionHeld3
import Derived.Deep.DrawnRows
import Derived.WalkLawsBesides
import Derived.WalkSpells
namespace Go.Proofs.YtjjppbfknjeddaaGreatDoor
open Go.RowKit
set_option linter.unusedVariables false
attribute [local go_sem ↓] Go.wp_at_zero Go.wp_at_succ

/-- After k rounds the first k bytes of both are the same. -/
theorem take_succ_eq {xs bs : List UInt8} {k : Nat} (hl : xs.length = bs.length) (hk : k < xs.length) (h : xs.take k = bs.take k) : (xs.take (k + 1) = bs.take (k + 1)) ↔ xs.getD k 0 = bs.getD k 0 := by
  rw [List.take_succ_eq_append_getElem hk, List.take_succ_eq_append_getElem (l := bs) (by omega), h]
  have e1 : xs.getD k 0 = xs[k] := by simp [List.getD, hk]
  have e2 : bs.getD k 0 = bs[k] := by simp [List.getD, show k < bs.length by omega]
  rw [e1, e2]
  exact ⟨fun e => by simpa using List.append_cancel_left e, fun e => by rw [e]⟩
theorem ne_of_getD {xs bs : List UInt8} {k : Nat} (h : xs.getD k 0 ≠ bs.getD k 0) : xs ≠ bs := fun e => h (by rw [e])
theorem Tryz.info_u8 : (Tryz.prog.info? 5).map (fun i => (i.zero, i.size, i.bytes)) = some (some (.int .u8 0), 1, 1) := by kernel_rfl
/-- A twin of bytes: new memory, one byte 77 behind the last. -/
def IsTwin (w : World) (B : Nat) (g n cap : Nat) (bs : List UInt8) : Prop := Own w B 5 1 (some ⟨g, 0, none⟩) (n + 1) cap ((bs ++ [77]).map bv)
set_option maxHeartbeats 400000 in
set_option maxRecDepth 20000 in
theorem TwinBytes_any {w : World} {b1 : Nat} {a1 : Option Addr} {n1 c1 : Nat} {bs : List UInt8} (h1 : Rd w b1 a1 n1 c1 bs) (hb : n1 + 1 ≤ 140737488355328) :
    Calls Tryz.prog 7 #[.slice a1 n1 c1] w fun e w' => ∃ g cap, e = .returned (.slice (some ⟨g, 0, none⟩) n1 cap) ∧ IsTwin w' w.heap.size g n1 cap bs ∧ Chg Non w w' := by
  have Hr := Lib.hid h1
  obtain ⟨l1, le1, m1, z1, r1⟩ := h1
  unfold maxLen at m1
  have Z1 := Lib.hid z1; clear z1
  have R1 := Lib.hid r1; clear r1
  have L1 := Lib.hid l1; clear l1
  obtain ⟨i0, hi, hz0, hz1, hz2⟩ := info_parts Tryz.info_u8
  have Hi := Lib.hid hi; clear hi
  have Hz0 := Lib.hid hz0; clear hz0
  have Hz1 := Lib.hid hz1; clear hz1
  have Hz2 := Lib.hid hz2; clear hz2
  go_enter Tryz.func7, Tryz.ntmps7
  go_wp2_with (at_make; refine wpList_make_any rfl _ _ 42 rfl 5 i0 (.int .u8 0) 1 1 Tryz.underlying42 Hi.out Hz0.out Hz1.out Hz2.out _ _ _ _ 0 (n1 + 1) rfl rfl rfl (by omega) (by omega) (by omega) (by unfold maxLen; omega) ?_)
  go_loopw [4, 3] (fun i t wr => ∃ k cap : Nat, ∃ ad, k ≤ n1 ∧ i = .int .i64 k ∧ t = .slice ad k cap ∧ Own wr w.heap.size 5 1 ad k cap ((bs.map bv).take k) ∧ Chg Non w wr) (fun i _ _ => n1 - (intOf i).toNat)
  case atStart =>
    refine ⟨0, n1 + 1, _, by omega, rfl, rfl, ?_, (Chg.refl _ _).alloc _⟩
    have h0 := Own.of_block (n := 0) (cap := n1 + 1) (sz := 1) (heap_alloc_new w (.cells (madeCells #[.int .u8 0] (n1 + 1)) 5)) (Nat.le_refl _) (by omega) (by unfold maxLen; omega) (by simp [size_madeCells])
    simpa using h0
  case round =>
    obtain ⟨k, cap, ad, hk, rfl, rfl, hown, hchg⟩ := hrel
    have hsz := hchg.size
    by_cases hlt : k < n1
    · obtain ⟨o1, rfl, c1'⟩ := R1.out (by omega)
      have hbl : b1 < w.heap.size := Hr.out.lt (by omega)
      have d1 : wr.cell? ⟨b1, o1 + k, none⟩ = some (.int .u8 ((bs.getD k 0).toNat : Int)) := (hchg.cell (p := ⟨b1, o1 + k, none⟩) hbl (fun h => h)).trans (c1' k hlt)
      clear c1'
      generalize hx : bs.getD k 0 = x at d1
      have HX := Lib.hid hx; clear hx
      go_wp2_with (at_builtin; refine wpList_append_Own rfl _ _ 42 42 rfl w.heap.size 5 1 1 i0 (.int .u8 0) Tryz.underlying42 Hi.out Hz0.out Hz1.out rfl Hz2.out ad k cap _ rfl (hown.alloc _) _ 1 _ rfl (Src.cells Tryz.underlying42 (heap_alloc_new _ _) 1 1 1 (by rfl) (by simp [Value.oneCell'])) (by unfold maxLen; omega) (by omega) (by simp; omega) ?_)
      intro ao' cap' w1 hown1 hchg1 _ _
      have hown2 : Own w1 w.heap.size 5 1 ao' (k + 1) cap' ((bs.map bv).take (k + 1)) := by
        rw [map_take_succ (by have := L1.out; omega), HX.out]; exact hown1
      have hchg2 : Chg Non w w1 := (hchg.alloc _).next hchg1 (fun j hj h => by have := (hown.lt j h.1).1; omega)
      clear hown1 hchg1 hown hchg
      go_wp2
      go_roundw
      case rel => exact ⟨k + 1, cap', ao', by omega, by go_num, rfl, hown2, hchg2⟩
      case measure => simp [intOf]; omega
    · obtain rfl : k = n1 := by omega
      go_wp2_with (at_builtin; refine wpList_append_Own rfl _ _ 42 42 rfl w.heap.size 5 1 1 i0 (.int .u8 0) Tryz.underlying42 Hi.out Hz0.out Hz1.out rfl Hz2.out ad k cap _ rfl (hown.alloc _) _ 1 _ rfl (Src.cells Tryz.underlying42 (heap_alloc_new _ _) 1 1 1 (by rfl) (by simp [Value.oneCell'])) (by unfold maxLen; omega) (by omega) (by simp; omega) ?_)
      intro ao' cap' w1 hown1 hchg1 _ _
      have hown2 : Own w1 w.heap.size 5 1 ao' (k + 1) cap' ((bs ++ [77]).map bv) := by
        have h := hown1
        rw [List.take_of_length_le (by have := L1.out; simp; omega)] at h
        rw [List.map_append]; exact h
      have hchg2 : Chg Non w w1 := (hchg.alloc _).next hchg1 (fun j hj h => by have := (hown.lt j h.1).1; omega)
      have hle := hown2.le
      obtain ⟨g, rfl, _⟩ := hown2.form (by omega)
      clear hown1 hchg1 hown hchg
      go_wp2
      go_ret
      exact ⟨g, cap', rfl, hown2, hchg2⟩
set_option maxHeartbeats 400000 in
set_option maxRecDepth 20000 in
theorem LeftBytes_any {w : World} {B g n cap b2 : Nat} {a2 : Option Addr} {c2 : Nat} {bs : List UInt8} (h1 : IsTwin w B g n cap bs) (h2 : Rd w b2 a2 n c2 bs) :
    Calls Tryz.prog 14 #[.slice (some ⟨g, 0, none⟩) n cap, .slice a2 n c2] w fun e w' => e = .returned (.bool true) ∧ ∃ q, w' = w.drewN q := by
  have hle := Own.le h1
  obtain ⟨g', hg', _, _, _, hc, _⟩ := Own.form h1 (by omega)
  cases hg'
  obtain ⟨l2, le2, m2, z2, r2⟩ := h2
  unfold maxLen at m2 hle
  have hc1 : ∀ j, j < n → w.cell? ⟨g, j, none⟩ = some (.int .u8 ((bs.getD j 0).toNat : Int)) := fun j hj => by
    rw [hc j (by omega)]
    simp [List.getD, show j < bs.length by omega, List.getElem?_append_left, bv]
  have hc2 : w.cell? ⟨g, n, none⟩ = some (.int .u8 77) := by
    rw [hc n (by omega)]
    subst l2
    simp [bv]
  clear hc z2 h1
  have C1 := Lib.hid hc1; clear hc1
  have R2 := Lib.hid r2; clear r2
  have L2 := Lib.hid l2; clear l2
  have hb : (((n : Nat) : Int) != (n : Int)) = false := by simp
  have hb2 : decide ((cap : Int) ≤ (n : Int)) = false := by simp; omega
  go_enter Tryz.func14, Tryz.ntmps14
  go_wp2
  go_loopw [5] (fun i wr => ∃ k : Nat, k ≤ n ∧ i = .int .i64 k ∧ ∃ q, wr = w.drewN q) (fun i _ => n - (intOf i).toNat)
  case atStart => exact ⟨0, by omega, rfl, 0, rfl⟩
  case round =>
    obtain ⟨k, hk, rfl, q, rfl⟩ := hrel
    by_cases hlt : k < n
    · obtain ⟨o2, rfl, c2'⟩ := R2.out (by omega)
      have d2 : w.cell? ⟨b2, o2 + k, none⟩ = some (.int .u8 ((bs.getD k 0).toNat : Int)) := c2' k hlt
      have d1 := C1.out k hlt
      clear c2'
      generalize hx : bs.getD k 0 = x at d1 d2
      have HX := Lib.hid hx; clear hx
      have k0 : (0 : Int) ≤ (k : Int) := by omega
      have k1 : (k : Int) < (n : Int) := by omega
      go_wp2
      go_quiet (fail)
      go_wp2
      go_roundw
      case rel => exact ⟨k + 1, by omega, by go_num, _, rfl⟩
      case measure => simp [intOf]; omega
    · obtain rfl : k = n := by omega
      go_wp2
      go_ret
      exact ⟨rfl, q, rfl⟩
end Go.Proofs.YtjjppbfknjeddaaGreatDoor
