/- SumsInner, walked. -/
import Derived.Test.YtbmopcmhokpchaaSumsCalls
namespace Go.Proofs.Ytbmopcmhokpchaa
open Go.RowKit
set_option linter.unusedVariables false
set_option linter.unusedSimpArgs false
attribute [local go_sem ↓] Go.wp_at_zero Go.wp_at_succ
/-- Memory while both blocks are turned. -/
structure InW (w wr : World) (A : Nat) (k64 : List UInt8) (k : Nat) : Prop where
  r1 : wr.heap[A]? = some (.cells ((xRow k64 0x36 0 k).map bv).toArray 5 (0, 0))
  r2 : wr.heap[A + 1]? = some (.cells ((xRow k64 0x5c 0 k).map bv).toArray 5 (0, 0))
  ge : w.heap.size ≤ A
  chg : Chg Non w wr
theorem xRow_put {k64 : List UInt8} {c : UInt8} {n k : Nat} (hk : k < k64.length) : (((xRow k64 c n k).map bv).toArray.setIfInBounds k (bv (k64.getD k 0 ^^^ c))) = ((xRow k64 c n (k + 1)).map bv).toArray := by
  rw [← xRow_set hk]
  apply Array.ext'
  simp [List.map_set]
theorem InW.step {w wr : World} {A k : Nat} {k64 : List UInt8} (h : InW w wr A k64 k) (hk : k < k64.length) :
    InW w ((wr.setCell ⟨A, k, none⟩ (bv (k64.getD k 0 ^^^ 0x36))).setCell ⟨A + 1, k, none⟩ (bv (k64.getD k 0 ^^^ 0x5c))) A k64 (k + 1) := by
  have hge := h.ge
  refine ⟨?_, ?_, h.ge, (h.chg.setCell (.inl (by simpa using hge)) _).setCell (.inl (by simp; omega)) _⟩
  · rw [heap_setCell_other _ _ _ _ (by simp), row_set h.r1, xRow_put hk]
  · rw [row_set ((heap_setCell_other _ _ _ _ (by simp)).trans h.r2), xRow_put hk]
theorem made64 : madeCells #[.int .u8 0] 64 = ((List.replicate 64 (0 : UInt8)).map bv).toArray := by
  rw [madeCells_one, List.map_replicate]
  rfl
theorem key_row {ks : List UInt8} {kn : Nat} (h : ks.length = kn) (h64 : kn ≤ 64) (c : UInt8) :
    ((((List.replicate 64 (0 : UInt8)).map bv).toArray.toList.take 0 ++ ((ks.map bv).take 64 ++ ((List.replicate 64 (0 : UInt8)).map bv).toArray.toList.drop (0 + kn))).toArray) = ((xRow (ks ++ List.replicate (64 - ks.length) 0) c 0 0).map bv).toArray := by
  have ht : (ks.map bv).take 64 = ks.map bv := List.take_of_length_le (by simp; omega)
  rw [xRow_zero, ht, h]
  simp only [List.take_zero, List.nil_append, Nat.zero_add, List.map_append, List.map_replicate, List.drop_replicate, List.replicate_zero, List.append_nil]
attribute [local go_sem ↓] run_load_row_op run_store_row_op in
set_option maxRecDepth 40000 in
set_option maxHeartbeats 1000000 in
theorem SumsInner_any {w : World} {kb : Nat} {ka : Option Addr} {kn kc : Nat} {ks : List UInt8} (hr : Rd w kb ka kn kc ks) {b : Nat} {ao : Option Addr} {n cap : Nat} {ls : List UInt8} (h : Rd w b ao n cap ls) :
    Calls Try.prog 8 #[.slice ka kn kc, .slice ao n cap] w fun e w' => e = .returned (.bool true) ∧ Below w.heap.size w w' := by
  obtain ⟨i0, hi, hz0, hz1, hz2⟩ := info_parts Try.info_u8
  have Hi := Lib.hid hi; clear hi
  have Hz0 := Lib.hid hz0; clear hz0
  have Hz1 := Lib.hid hz1; clear hz1
  have Hz2 := Lib.hid hz2; clear hz2
  have HL := Lib.hid h; have HR := Lib.hid hr
  clear h hr
  by_cases h1 : kn ≤ 64
  · by_cases h2 : n ≤ 3000
    · go_enter Try.func8, Try.ntmps8
      go_wp2_with fail
      refine Calls.mono (alive10_any _) ?_
      rintro e w1 ⟨rfl, hc1⟩
      have C1 := Lib.hid hc1; clear hc1
      obtain ⟨W0, hW0⟩ : ∃ W0, W0 = (w1.alloc (.cells (madeCells #[.int .u8 0] 64) 5)).alloc (.cells (madeCells #[.int .u8 0] 64) 5) := ⟨_, rfl⟩
      have g1 : W0.heap[w1.heap.size]? = some (.cells ((List.replicate 64 (0 : UInt8)).map bv).toArray 5 (0, 0)) := by rw [hW0, heap_alloc2_old w1 _ _, made64]
      have g2 : W0.heap[w1.heap.size + 1]? = some (.cells ((List.replicate 64 (0 : UInt8)).map bv).toArray 5 (0, 0)) := by rw [hW0, heap_alloc2_new w1 _ _, made64]
      have c0 : Chg Non w W0 := by rw [hW0]; exact (C1.out.alloc _).alloc _
      have hge : w.heap.size ≤ w1.heap.size := C1.out.size
      obtain ⟨W1, hW1⟩ : ∃ W1, W1 = W0.setRow w1.heap.size ((xRow (ks ++ List.replicate (64 - ks.length) 0) 0x36 0 0).map bv).toArray := ⟨_, rfl⟩
      have hcp1 : ∀ ty, (Builtin.copy_ #[33, 33] ty #[.slice (some ⟨w1.heap.size, 0, none⟩) 64 64, .slice ka kn kc]).run Try.prog W0 = .ok (.int .i64 (kn : Int)) W1 := fun ty => by
        rw [hW1, run_copy_Rd 33 33 ty Try.underlying33 Try.size_byte (off := 0) (fun _ => rfl) g1 (by simp) (HR.out.chg c0 (fun h => h)) (M := kn) (by omega), key_row HR.out.1 h1 0x36]
      have k1 : W1.heap[w1.heap.size]? = some (.cells ((xRow (ks ++ List.replicate (64 - ks.length) 0) 0x36 0 0).map bv).toArray 5 (0, 0)) := by rw [hW1]; exact setRow_heap _ _ _ _ _ _ g1
      have k2 : W1.heap[w1.heap.size + 1]? = some (.cells ((List.replicate 64 (0 : UInt8)).map bv).toArray 5 (0, 0)) := by rw [hW1]; exact (setRow_other _ _ _ _ (by omega)).trans g2
      have c1 : Chg Non w W1 := by rw [hW1]; exact c0.setRow (.inl hge) _
      obtain ⟨W2, hW2⟩ : ∃ W2, W2 = W1.setRow (w1.heap.size + 1) ((xRow (ks ++ List.replicate (64 - ks.length) 0) 0x5c 0 0).map bv).toArray := ⟨_, rfl⟩
      have hcp2 : ∀ ty, (Builtin.copy_ #[33, 33] ty #[.slice (some ⟨w1.heap.size + 1, 0, none⟩) 64 64, .slice ka kn kc]).run Try.prog W1 = .ok (.int .i64 (kn : Int)) W2 := fun ty => by
        rw [hW2, run_copy_Rd 33 33 ty Try.underlying33 Try.size_byte (off := 0) (fun _ => rfl) k2 (by simp) (HR.out.chg c1 (fun h => h)) (M := kn) (by omega), key_row HR.out.1 h1 0x5c]
      have iw : InW w W2 w1.heap.size (ks ++ List.replicate (64 - ks.length) 0) 0 := by
        rw [hW2]
        exact ⟨(setRow_other _ _ _ _ (by omega)).trans k1, setRow_heap _ _ _ _ _ _ k2, hge, c1.setRow (.inl (by omega)) _⟩
      have IW := Lib.hid iw
      have L64 := Lib.hid (show (ks ++ List.replicate (64 - ks.length) (0 : UInt8)).length = 64 by have := HR.out.1; simp; omega)
      have HP : Hid (∀ c : UInt8, (ks ++ List.replicate (64 - ks.length) (0 : UInt8)).map (· ^^^ c) = padKey ks c) := Lib.hid (fun c => rfl)
      generalize ks ++ List.replicate (64 - ks.length) (0 : UInt8) = k64 at IW L64 HP
      rw [hW0] at hcp1
      clear hW0 hW1 hW2 g1 g2 c0 k1 k2 c1 iw
      go_wp2_with (at_make; refine wpList_make_any rfl _ _ 33 rfl 5 i0 (.int .u8 0) 1 1 Try.underlying33 Hi.out Hz0.out Hz1.out Hz2.out _ _ _ _ 64 64 rfl rfl rfl rfl (by omega) (by omega) (by unfold maxLen; omega) ?_)
      clear hcp1 hcp2
      generalize w1.heap.size = A at IW hge ⊢
      go_loopw [7] (fun i wr => ∃ k : Nat, k ≤ 64 ∧ i = .int .i64 k ∧ InW w wr A k64 k) (fun i _ => 64 - (intOf i).toNat)
      case atStart => exact ⟨0, by omega, rfl, IW.out⟩
      case round =>
        clear IW
        obtain ⟨k, hk, rfl, ho⟩ := hrel
        by_cases hlt : k < 64
        · have y1 : wr.cell? ⟨A, k, none⟩ = some (.int .u8 ((k64.getD k 0).toNat : Int)) := newc ho.r1 (by rw [List.getElem?_toArray, List.getElem?_map, xRow_get (by have := L64.out; omega)]; rfl)
          have y2 : wr.cell? ⟨A + 1, k, none⟩ = some (.int .u8 ((k64.getD k 0).toNat : Int)) := newc ho.r2 (by rw [List.getElem?_toArray, List.getElem?_map, xRow_get (by have := L64.out; omega)]; rfl)
          have f1 := frozen_of_row wr _ k _ _ ho.r1
          have f2 := frozen_of_row wr _ k _ _ ho.r2
          have HS := Lib.hid (ho.step (k := k) (by have := L64.out; omega))
          generalize k64.getD k 0 = x at y1 y2 HS
          have z1 : ∀ v, (wr.setCell ⟨A, k, none⟩ v).cell? ⟨A + 1, k, none⟩ = some (.int .u8 (x.toNat : Int)) := fun v => (World.cell?_of_block (w := wr) (a := ⟨A + 1, k, none⟩) (heap_setCell_other _ _ _ _ (by simp))).trans y2
          have k0 : (0 : Int) ≤ (k : Int) := by omega
          have k1 : (k : Int) < 64 := by omega
          clear ho
          go_wp2_with fail
          go_roundw
          case rel => exact ⟨k + 1, by omega, by go_num, by have e1 := u8_xor_bv x 0x36; have e2 := u8_xor_bv x 0x5c; rw [show ((0x36 : UInt8).toNat : Int) = 54 from rfl] at e1; rw [show ((0x5c : UInt8).toNat : Int) = 92 from rfl] at e2; rw [e1, e2]; exact HS.out⟩
          case measure => simp [intOf]; omega
        · obtain rfl : k = 64 := by omega
          have p1 : (padKey ks 0x36).length = 64 := by rw [← HP.out, List.length_map]; exact L64.out
          have p2 : (padKey ks 0x5c).length = 64 := by rw [← HP.out, List.length_map]; exact L64.out
          have q1 : wr.heap[A]? = some (.cells ((padKey ks 0x36).map bv).toArray 5 (0, 0)) := by rw [ho.r1, xRow_end L64.out, HP.out, List.replicate_zero, List.append_nil]
          have q2 : wr.heap[A + 1]? = some (.cells ((padKey ks 0x5c).map bv).toArray 5 (0, 0)) := by rw [ho.r2, xRow_end L64.out, HP.out, List.replicate_zero, List.append_nil]
          have own1 := Own.of_block (B := w.heap.size) (n := 64) (cap := 64) (sz := 1) q1 (by omega) (by omega) (by unfold maxLen; omega) (by simp [p1])
          have own2 := Own.of_block (B := w.heap.size) (n := 64) (cap := 64) (sz := 1) q2 (by omega) (by omega) (by unfold maxLen; omega) (by simp [p2])
          rw [List.toList_toArray, Nat.mul_one, List.take_of_length_le (by simp [p1])] at own1
          rw [List.toList_toArray, Nat.mul_one, List.take_of_length_le (by simp [p2])] at own2
          have OWN1 := Lib.hid own1; have OWN2 := Lib.hid own2
          have LR := Lib.hid (HL.out.chg ho.chg (fun h => h))
          have CW := Lib.hid ho.chg
          have hwz : w.heap.size ≤ wr.heap.size := ho.chg.size
          obtain ⟨S1, hS1⟩ : ∃ S1, S1 = sha (padKey ks 0x36 ++ ls) := ⟨_, rfl⟩
          obtain ⟨S2, hS2⟩ : ∃ S2, S2 = sha (padKey ks 0x5c ++ S1) := ⟨_, rfl⟩
          have H1 := Lib.hid hS1; have H2 := Lib.hid hS2
          have L1 := Lib.hid (show S1.length = 32 by rw [hS1]; exact sha_length _)
          have L2 := Lib.hid (show S2.length = 32 by rw [hS2]; exact sha_length _)
          have HM := Lib.hid (show S2 = hmac ks ls by rw [hS2, hS1, hmac, if_neg (by have := HR.out.1; omega)]; rfl)
          clear ho q1 q2 own1 own2 p1 p2 hk hlt hS1 hS2
          generalize padKey ks 0x36 = pk1 at OWN1 H1
          generalize padKey ks 0x5c = pk2 at OWN2 H2
          clear HP L64
          go_wp2_with (at_builtin; refine wpList_append_Own rfl _ _ 33 33 rfl w.heap.size 5 1 1 i0 (.int .u8 0) Try.underlying33 Hi.out Hz0.out Hz1.out rfl Hz2.out (some ⟨A, 0, none⟩) 64 64 _ rfl OWN1.out _ n _ rfl (Rd.src LR.out Try.underlying33) (by unfold maxLen; omega) (by omega) hwz ?_; intro ao' cap' w2 hown2 hchg2 h3 h4; clear h3 h4)
          obtain ⟨bq, _, hrd⟩ := Rd.of_Own (bs := pk1 ++ ls) (by rw [List.map_append]; exact hown2)
          have hc2 : Chg Non wr w2 := hchg2.mono (fun k _ h => by omega)
          refine Calls.mono (Of_of H1.out hrd (by omega)) ?_
          rintro e w3 ⟨rfl, hc3⟩
          have O3 := Lib.hid (OWN2.out.chg (hc2.trans hc3) (fun _ _ h => h))
          have C3 := Lib.hid (CW.out.trans (hc2.trans hc3))
          clear hown2 hchg2 hrd hc2 hc3
          obtain ⟨W4, p3, q3, e3, c3, z3⟩ := sum_new w3 L1.out
          rw [zero32_lit] at p3 q3
          have O4 := Lib.hid (O3.out.chg c3 (fun _ _ h => h))
          have R4 := Lib.hid (Rd.of_block (n := 32) e3 L1.out (by unfold maxLen; omega))
          have C4 := Lib.hid (C3.out.trans c3)
          have hwz4 : w.heap.size ≤ W4.heap.size := C4.out.size
          clear e3 c3
          go_wp2_with (at_builtin; refine wpList_append_Own rfl _ _ 33 33 rfl w.heap.size 5 1 1 i0 (.int .u8 0) Try.underlying33 Hi.out Hz0.out Hz1.out rfl Hz2.out (some ⟨A + 1, 0, none⟩) 64 64 _ rfl O4.out _ 32 _ rfl (Rd.src R4.out Try.underlying33) (by unfold maxLen; omega) (by omega) hwz4 ?_; intro ao5 cap5 w5 hown5 hchg5 h3 h4; clear h3 h4)
          obtain ⟨bq5, _, hrd5⟩ := Rd.of_Own (bs := pk2 ++ S1) (by rw [List.map_append]; exact hown5)
          have hc5 : Chg Non W4 w5 := hchg5.mono (fun k _ h => by omega)
          refine Calls.mono (Of_of H2.out hrd5 (by omega)) ?_
          rintro e w6 ⟨rfl, hc6⟩
          have C6 := Lib.hid (C4.out.trans (hc5.trans hc6))
          clear hown5 hchg5 hrd5 hc5 hc6 p3 q3
          go_wp2_with fail
          refine Calls.mono (Keyed_of HM.out (HR.out.chg C6.out (fun h => h)) (by omega) (HL.out.chg C6.out (fun h => h)) (by omega)) ?_
          rintro e w7 ⟨rfl, hc7⟩
          have C7 := Lib.hid (C6.out.trans hc7); clear hc7
          have heq := equal_self L2.out
          go_wp2_with fail
          go_ret
          exact ⟨rfl, C7.out.belowN⟩
    · go_enter Try.func8, Try.ntmps8
      go_wp2_with fail
      refine Calls.mono (alive10_any _) ?_
      rintro e w1 ⟨rfl, hc1⟩
      have C1 := Lib.hid hc1; clear hc1
      go_wp2_with fail
      refine Calls.mono (alive10_any _) ?_
      rintro e w2 ⟨rfl, hc2⟩
      have C2 := Lib.hid (C1.out.trans hc2); clear hc2
      go_wp2_with fail
      go_ret
      exact ⟨rfl, C2.out.belowN⟩
  · go_enter Try.func8, Try.ntmps8
    go_wp2_with fail
    refine Calls.mono (alive10_any _) ?_
    rintro e w1 ⟨rfl, hc1⟩
    have C1 := Lib.hid hc1; clear hc1
    go_wp2_with fail
    refine Calls.mono (alive10_any _) ?_
    rintro e w2 ⟨rfl, hc2⟩
    have C2 := Lib.hid (C1.out.trans hc2); clear hc2
    go_wp2_with fail
    go_ret
    exact ⟨rfl, C2.out.belowN⟩
end Go.Proofs.Ytbmopcmhokpchaa
