/- The sum with a key, walked. -/
import Derived.Test.YtbmopcmhokpchaaDoorShaOf
namespace Go.Proofs.YtbmopcmhokpchaaDoor
open Go.RowKit
set_option linter.unusedVariables false
set_option linter.unusedSimpArgs false
attribute [local go_sem ↓] Go.wp_at_zero Go.wp_at_succ
/-- A key of 64 bytes, against one byte. -/
def padKey (ks : List UInt8) (by_ : UInt8) : List UInt8 := (ks ++ List.replicate (64 - ks.length) 0).map (· ^^^ by_)
def hmac64 (ks ls : List UInt8) : List UInt8 := sha (padKey ks 0x5c ++ sha (padKey ks 0x36 ++ ls))
def hmac (ks ls : List UInt8) : List UInt8 := hmac64 (if 64 < ks.length then sha ks else ks) ls
theorem padKey_length {ks : List UInt8} {c : UInt8} (h : ks.length ≤ 64) : (padKey ks c).length = 64 := by simp [padKey]; omega
theorem hmac_length (ks ls : List UInt8) : (hmac ks ls).length = 32 := sha_length _
theorem u8_xor_bv (x y : UInt8) : Value.int .u8 (bits .xor .u8 (x.toNat : Int) (y.toNat : Int)) = bv (x ^^^ y) := by
  rw [u8_xor_nat _ _ x.toNat_lt y.toNat_lt, bv, UInt8.toNat_xor]
/-- The block while it is turned: of the first k bytes each against one byte. -/
def xRow (k64 : List UInt8) (c : UInt8) (n k : Nat) : List UInt8 := ((k64.take k).map (· ^^^ c) ++ k64.drop k) ++ List.replicate n 0
theorem xRow_zero (k64 : List UInt8) (c : UInt8) (n : Nat) : xRow k64 c n 0 = k64 ++ List.replicate n 0 := by simp [xRow]
theorem xRow_get {k64 : List UInt8} {c : UInt8} {n k : Nat} (h : k < k64.length) : (xRow k64 c n k)[k]? = some (k64.getD k 0) := by
  unfold xRow
  have ht : ((k64.take k).map (· ^^^ c)).length = k := by rw [List.length_map, List.length_take]; omega
  rw [List.getElem?_append_left (by rw [List.length_append, ht, List.length_drop]; omega), List.getElem?_append_right (by omega), ht, Nat.sub_self, List.getElem?_drop, Nat.add_zero]
  simp [List.getD, h]
theorem xRow_set {k64 : List UInt8} {c : UInt8} {n k : Nat} (h : k < k64.length) : (xRow k64 c n k).set k (k64.getD k 0 ^^^ c) = xRow k64 c n (k + 1) := by
  unfold xRow
  have ht : ((k64.take k).map (· ^^^ c)).length = k := by rw [List.length_map, List.length_take]; omega
  rw [List.set_append_left _ _ (by rw [List.length_append, ht, List.length_drop]; omega), List.set_append_right _ _ (by omega), ht, Nat.sub_self, List.drop_eq_getElem_cons h, List.set_cons_zero, List.take_succ_eq_append_getElem h, List.map_append]
  simp [List.getD, h]
theorem xRow_end {k64 : List UInt8} {c : UInt8} {n : Nat} (h : k64.length = 64) : xRow k64 c n 64 = k64.map (· ^^^ c) ++ List.replicate n 0 := by
  unfold xRow
  rw [List.take_of_length_le (by omega), List.drop_of_length_le (by omega), List.append_nil]
/-- Memory while the block is turned. -/
structure KeyW (w wr : World) (G n : Nat) (k64 : List UInt8) (c : UInt8) (k : Nat) : Prop where
  out : wr.heap[w.heap.size]? = some (.cells (zeroV 32) 33 (0, 0))
  row : wr.heap[G]? = some (.cells ((xRow k64 c n k).map bv).toArray 5 (0, 0))
  lt : w.heap.size < G
  chg : Chg Non w wr
theorem KeyW.step {w wr : World} {G n k : Nat} {k64 : List UInt8} {c : UInt8} (h : KeyW w wr G n k64 c k) (hk : k < k64.length) : KeyW w (wr.setCell ⟨G, k, none⟩ (bv (k64.getD k 0 ^^^ c))) G n k64 c (k + 1) := by
  have hlt := h.lt
  refine ⟨(heap_setCell_other _ _ _ _ (by simp; omega)).trans h.out, ?_, h.lt, h.chg.setCell (.inl (by simp; omega)) _⟩
  rw [row_set h.row, ← xRow_set hk]
  congr 2
  apply Array.ext'
  simp [List.map_set]
attribute [local go_sem ↓] run_load_row_op run_store_row_op in
set_option maxRecDepth 40000 in
set_option maxHeartbeats 1000000 in
theorem with_any {w : World} {b : Nat} {ao : Option Addr} {n cap : Nat} {ls : List UInt8} (h : Rd w b ao n cap ls) (hn : n ≤ 900000000) {kp kb : Nat} {ka : Option Addr} {kn kc : Nat} {ks : List UInt8}
    (hk : w.cell? ⟨kp, 0, none⟩ = some (.slice ka kn kc)) (hr : Rd w kb ka kn kc ks) (h64 : kn ≤ 64) (c : UInt8) :
    Calls Tryd.prog 20 #[.int .u8 (c.toNat : Int), .slice ao n cap, .pointer (some ⟨kp, 0, none⟩)] w fun e w' => e = .returned (.agg ((sha (padKey ks c ++ ls)).map bv).toArray) ∧ Chg Non w w' := by
  obtain ⟨i0, hi, hz0, hz1, hz2⟩ := info_parts Tryd.info_u8
  have Hi := Lib.hid hi; clear hi
  have Hz0 := Lib.hid hz0; clear hz0
  have Hz1 := Lib.hid hz1; clear hz1
  have Hz2 := Lib.hid hz2; clear hz2
  have HL := Lib.hid h; have HR := Lib.hid hr
  clear h hr
  have hkb : kp < w.heap.size := World.block_lt_of_cell? w _ hk
  obtain ⟨W0, hW0⟩ : ∃ W0, W0 = (w.alloc (.cells (zeroV 32) 33)).alloc (.cells (madeCells #[.int .u8 0] (64 + n)) 5) := ⟨_, rfl⟩
  have g0 : W0.heap[w.heap.size + 1]? = some (.cells (madeCells #[.int .u8 0] (64 + n)) 5 (0, 0)) := by rw [hW0]; exact heap_alloc2_new w _ _
  have o0 : W0.heap[w.heap.size]? = some (.cells (zeroV 32) 33 (0, 0)) := by rw [hW0]; exact heap_alloc2_old w _ _
  have c0 : Chg Non w W0 := by rw [hW0]; exact ((Chg.refl _ _).alloc _).alloc _
  have hsz : W0.heap.size = w.heap.size + 1 + 1 := by rw [hW0]; simp
  obtain ⟨W1, hW1⟩ : ∃ W1, W1 = W0.setRow (w.heap.size + 1) ((xRow (ks ++ List.replicate (64 - ks.length) 0) c n 0).map bv).toArray := ⟨_, rfl⟩
  have hcp : ∀ ty, (Builtin.copy_ #[29, 29] ty #[.slice (some ⟨w.heap.size + 1, 0, none⟩) 64 (64 + n), .slice ka kn kc]).run Tryd.prog W0 = .ok (.int .i64 (kn : Int)) W1 := fun ty => by
    rw [hW1, run_copy_Rd 29 29 ty Tryd.underlying29 Tryd.size_byte (off := 0) (fun _ => rfl) g0 (by simp [size_madeCells]) (HR.out.chg c0 (fun h => h)) (M := kn) (by omega)]
    congr 3
    have ht : (ks.map bv).take 64 = ks.map bv := List.take_of_length_le (by have := HR.out.1; simp; omega)
    rw [madeCells_one, xRow_zero, HR.out.1, ht]
    simp only [List.take_zero, List.nil_append, Nat.zero_add, List.drop_replicate, List.map_append, List.map_replicate, List.append_assoc, List.replicate_append_replicate]
    rw [show 64 + n - kn = 64 - kn + n by omega]
    rfl
  have kw : KeyW w W1 (w.heap.size + 1) n (ks ++ List.replicate (64 - ks.length) 0) c 0 := by
    rw [hW1]
    exact ⟨(setRow_other _ _ _ _ (by omega)).trans o0, setRow_heap _ _ _ _ _ _ g0, by omega, c0.setRow (.inl (by omega)) _⟩
  have K0 := Lib.hid kw
  have l64 : (ks ++ List.replicate (64 - ks.length) (0 : UInt8)).length = 64 := by have := HR.out.1; simp; omega
  have L64 := Lib.hid l64
  have HP : Hid ((ks ++ List.replicate (64 - ks.length) (0 : UInt8)).map (· ^^^ c) = padKey ks c) := Lib.hid rfl
  generalize ks ++ List.replicate (64 - ks.length) (0 : UInt8) = k64 at K0 L64 HP
  rw [hW0, zero32_lit] at hcp
  clear kw hW1 hW0 g0 o0 c0 hsz l64
  go_enter Tryd.func20, Tryd.ntmps20
  go_wp2_with (at_make; refine wpList_make_any rfl _ _ 29 rfl 5 i0 (.int .u8 0) 1 1 Tryd.underlying29 Hi.out Hz0.out Hz1.out Hz2.out _ _ _ _ 64 (64 + n) rfl rfl rfl (by omega) (by omega) (by omega) (by unfold maxLen; omega) ?_)
  clear hcp
  generalize hG : w.heap.size + 1 = G at K0 ⊢
  clear hG
  go_loopw [17] (fun i wr => ∃ k : Nat, k ≤ 64 ∧ i = .int .i64 k ∧ KeyW w wr G n k64 c k) (fun i _ => 64 - (intOf i).toNat)
  case atStart => exact ⟨0, by omega, rfl, K0.out⟩
  case round =>
    clear K0
    obtain ⟨k, hk, rfl, ho⟩ := hrel
    have OW := Lib.hid ho
    by_cases hlt : k < 64
    · have y1 : wr.cell? ⟨G, k, none⟩ = some (.int .u8 ((k64.getD k 0).toNat : Int)) := newc ho.row (by rw [List.getElem?_toArray, List.getElem?_map, xRow_get (by have := L64.out; omega)]; rfl)
      have f1 := frozen_of_row wr _ k _ _ ho.row
      have hst := ho.step (k := k) (by have := L64.out; omega)
      have HS := Lib.hid hst
      generalize k64.getD k 0 = x at y1 HS
      have k0 : (0 : Int) ≤ (k : Int) := by omega
      have k1 : (k : Int) < 64 := by omega
      clear ho hst
      go_wp2_with fail
      go_roundw
      case rel => exact ⟨k + 1, by omega, by go_num, by rw [u8_xor_bv]; exact HS.out⟩
      case measure => simp [intOf]; omega
    · obtain rfl : k = 64 := by omega
      have hrow : wr.heap[G]? = some (.cells ((padKey ks c ++ List.replicate n 0).map bv).toArray 5 (0, 0)) := by rw [← HP.out, ← xRow_end L64.out]; exact ho.row
      have hpl : (padKey ks c).length = 64 := by rw [← HP.out, List.length_map]; exact L64.out
      have hlt2 := ho.lt
      have own := Own.of_block (B := w.heap.size) (n := 64) (cap := 64 + n) (sz := 1) hrow (by omega) (by omega) (by unfold maxLen; omega) (by simp [hpl])
      have e1 : (((padKey ks c ++ List.replicate n 0).map bv).toArray.toList.take (64 * 1)) = (padKey ks c).map bv := by
        rw [List.toList_toArray, List.map_append, Nat.mul_one, List.take_append_of_le_length (by simp [hpl]), List.take_of_length_le (by simp [hpl])]
      rw [e1] at own
      have OWN := Lib.hid own
      have LR := Lib.hid (HL.out.chg ho.chg (fun h => h))
      have hwz : w.heap.size ≤ wr.heap.size := ho.chg.size
      have HOUT := Lib.hid ho.out; have CW := Lib.hid ho.chg
      clear ho hrow e1 own hpl hk hlt
      generalize hpk : padKey ks c = pk at OWN
      have HPK := Lib.hid hpk; clear hpk HP L64 OW
      go_wp2_with (first
        | (at_builtin; refine wpList_append_Own rfl _ _ 29 29 rfl w.heap.size 5 1 1 i0 (.int .u8 0) Tryd.underlying29 Hi.out Hz0.out Hz1.out rfl Hz2.out (some ⟨G, 0, none⟩) 64 (64 + n) _ rfl OWN.out _ n _ rfl (Rd.src LR.out Tryd.underlying29) (by unfold maxLen; omega) (by omega) hwz ?_; intro ao' cap' w1 hown1 hchg1 h3 h4; obtain ⟨rfl, rfl⟩ := h4 (Nat.le_refl _); clear h3 h4; obtain ⟨bq, _, hrd⟩ := Rd.of_Own (bs := pk ++ ls) (by rw [List.map_append]; exact hown1); have RD := Lib.hid hrd; have C1 := Lib.hid (CW.out.next hchg1 (fun i hi h => by have := (OWN.out.lt i h.1).1; omega)); have O1 := Lib.hid ((hchg1.block w.heap.size (Array.getElem?_eq_some_iff.1 HOUT.out).1 (fun h => by have h2 := h.1; simp [blk] at h2; omega)).trans HOUT.out); clear hown1 hchg1 hrd)
        | (go_at_call 19; go_loud (refine Calls.mono (Of_any RD.out (by omega)) ?_; rintro e w2 ⟨rfl, hc2⟩; have C2 := Lib.hid (C1.out.trans hc2); have SL : Hid ((sha (pk ++ ls)).length = 32) := Lib.hid (sha_length _); have e2 := (hc2.block w.heap.size (Array.getElem?_eq_some_iff.1 O1.out).1 (fun h => h)).trans O1.out; have p9 : CanStore Tryd.prog 33 w2 (.pointer (some ⟨w.heap.size, 0, none⟩)) (.agg ((sha (pk ++ ls)).map bv).toArray) := CanStore.mk e2 (size_of Tryd.size_32 SL.out) (by simp [zeroV, SL.out]) (bvs_all _); obtain ⟨W9, q9⟩ : ∃ W9, storedAt w2 (.pointer (some ⟨w.heap.size, 0, none⟩)) (.agg ((sha (pk ++ ls)).map bv).toArray) = W9 := ⟨_, rfl⟩; have E9 : Hid (W9.heap[w.heap.size]? = some (.cells ((sha (pk ++ ls)).map bv).toArray 33 (0, 0))) := Lib.hid (by rw [← q9]; exact setRow_heap _ _ _ _ _ _ e2); have C9 : Hid (Chg Non w W9) := Lib.hid (by rw [← q9]; exact C2.out.setRow (.inl (Nat.le_refl _)) _); clear hc2 e2)))
      refine bodyPost_ret (v := .agg ((sha (pk ++ ls)).map bv).toArray) (results_cell_row (fn := Tryd.f20) (p := 5) (ty := 33) Tryd.results20 _ _ w.heap.size 33 _ (0, 0) (.array 32 5) (by rfl) E9.out Tryd.underlying33 rfl (size_of Tryd.size_32 SL.out)) rfl ⟨by rw [HPK.out], C9.out⟩
end Go.Proofs.YtbmopcmhokpchaaDoor
