/- The sum with any key, walked. -/
import Derived.Test.YtbmopcmhokpchaaDoorShaKey
namespace Go.Proofs.YtbmopcmhokpchaaDoor
open Go.RowKit
set_option linter.unusedVariables false
set_option linter.unusedSimpArgs false
attribute [local go_sem ↓] Go.wp_at_zero Go.wp_at_succ
theorem with_of {w : World} {b : Nat} {ao : Option Addr} {n cap : Nat} {ls : List UInt8} (h : Rd w b ao n cap ls) (hn : n ≤ 900000000) {kp kb : Nat} {ka : Option Addr} {kn kc : Nat} {ks : List UInt8}
    (hk : w.cell? ⟨kp, 0, none⟩ = some (.slice ka kn kc)) (hr : Rd w kb ka kn kc ks) (h64 : kn ≤ 64) (c : UInt8) {x : Int} (hx : x = (c.toNat : Int)) {S : List UInt8} (hS : S = sha (padKey ks c ++ ls)) :
    Calls Tryd.prog 20 #[.int .u8 x, .slice ao n cap, .pointer (some ⟨kp, 0, none⟩)] w fun e w' => e = .returned (.agg (S.map bv).toArray) ∧ Chg Non w w' := by
  subst hx; subst hS; exact with_any h hn hk hr h64 c
/-- 32 bytes stored into a block that was made for them. -/
theorem sum_new (w : World) {S : List UInt8} (hS : S.length = 32) : ∃ W, CanStore Tryd.prog 33 (w.alloc (.cells (zeroV 32) 33)) (.pointer (some ⟨w.heap.size, 0, none⟩)) (.agg (S.map bv).toArray) ∧
    storedAt (w.alloc (.cells (zeroV 32) 33)) (.pointer (some ⟨w.heap.size, 0, none⟩)) (.agg (S.map bv).toArray) = W ∧ W.heap[w.heap.size]? = some (.cells (S.map bv).toArray 33 (0, 0)) ∧ Chg Non w W ∧ w.heap.size < W.heap.size := by
  refine ⟨_, CanStore.mk (heap_alloc_new w _) (size_of Tryd.size_32 hS) (by simp [zeroV, hS]) (bvs_all _), rfl, setRow_heap _ _ _ _ _ _ (heap_alloc_new w _), ((Chg.refl _ _).alloc _).setRow (.inl (Nat.le_refl _)) _, ?_⟩
  show w.heap.size < (World.setRow _ _ _).heap.size
  simp [World.setRow]
/-- 32 bytes stored into a block of the call's own. -/
theorem sum_put {w0 w : World} {g : Nat} {old : List UInt8} {S : List UInt8} (hg : w.heap[g]? = some (.cells (old.map bv).toArray 33 (0, 0))) (ho : old.length = 32) (hS : S.length = 32) (hc : Chg Non w0 w) (hB : w0.heap.size ≤ g) : ∃ W, CanStore Tryd.prog 33 w (.pointer (some ⟨g, 0, none⟩)) (.agg (S.map bv).toArray) ∧
    storedAt w (.pointer (some ⟨g, 0, none⟩)) (.agg (S.map bv).toArray) = W ∧ W.heap[g]? = some (.cells (S.map bv).toArray 33 (0, 0)) ∧ Chg Non w0 W :=
  ⟨_, CanStore.mk hg (size_of Tryd.size_32 hS) (by simp [ho, hS]) (bvs_all _), rfl, setRow_heap _ _ _ _ _ _ hg, hc.setRow (.inl hB) _⟩
attribute [local go_sem ↓] run_load_row_op run_store_row_op in
set_option maxRecDepth 40000 in
set_option maxHeartbeats 1000000 in
theorem Keyed_any {w : World} {kb : Nat} {ka : Option Addr} {kn kc : Nat} {ks : List UInt8} (hr : Rd w kb ka kn kc ks) (hkn : kn ≤ 800000000) {b : Nat} {ao : Option Addr} {n cap : Nat} {ls : List UInt8} (h : Rd w b ao n cap ls) (hn : n ≤ 800000000) :
    Calls Tryd.prog 13 #[.slice ka kn kc, .slice ao n cap] w fun e w' => e = .returned (.agg ((hmac ks ls).map bv).toArray) ∧ Chg Non w w' := by
  have HL := Lib.hid h; have HR := Lib.hid hr
  clear h hr
  by_cases h64 : kn ≤ 64
  · have HM : Hid (hmac ks ls = hmac64 ks ls) := Lib.hid (by rw [hmac, if_neg (by have := HR.out.1; omega)])
    go_enter Tryd.func13, Tryd.ntmps13
    go_wp2_with fail
    rw [← zero32_lit]
    obtain ⟨WK, hWK⟩ : ∃ WK, WK = (w.alloc (.cells #[.slice ka kn kc] 29)).alloc (.cells (zeroV 32) 33) := ⟨_, rfl⟩
    rw [← hWK]
    have CK : Hid (Chg Non w WK) := Lib.hid (by rw [hWK]; exact ((Chg.refl _ _).alloc _).alloc _)
    have HK : Hid (WK.cell? ⟨w.heap.size, 0, none⟩ = some (.slice ka kn kc)) := Lib.hid (by rw [hWK]; exact newc (heap_alloc2_old w _ _) rfl)
    have OK1 : Hid (WK.heap[w.heap.size + 1]? = some (.cells (zeroV 32) 33 (0, 0))) := Lib.hid (by rw [hWK]; exact heap_alloc2_new w _ _)
    have RK := Lib.hid (HR.out.chg CK.out (fun h => h))
    clear hWK
    obtain ⟨ks', rfl⟩ : ∃ ks', ks' = ks := ⟨_, rfl⟩
    have k64 := h64
    obtain ⟨S1, hS1⟩ : ∃ S1, S1 = sha (padKey ks' 0x36 ++ ls) := ⟨_, rfl⟩
    obtain ⟨S2, hS2⟩ : ∃ S2, S2 = sha (padKey ks' 0x5c ++ S1) := ⟨_, rfl⟩
    have l1 : S1.length = 32 := by rw [hS1]; exact sha_length _
    have l2 : S2.length = 32 := by rw [hS2]; exact sha_length _
    have HF : Hid (S2 = hmac64 ks' ls) := Lib.hid (by rw [hS2, hS1]; rfl)
    have H1 := Lib.hid hS1; have H2 := Lib.hid hS2; have L1 := Lib.hid l1; have L2 := Lib.hid l2
    clear hS1 hS2 l1 l2
    refine Calls.mono (with_of (HL.out.chg CK.out (fun h => h)) (by omega) HK.out RK.out k64 0x36 (by rfl) H1.out) ?_
    rintro e w2 ⟨rfl, hc2⟩
    have CK2 := Lib.hid (CK.out.trans hc2)
    have OK2 := Lib.hid ((hc2.block _ (Array.getElem?_eq_some_iff.1 OK1.out).1 (fun h => h)).trans OK1.out)
    have HK2 := Lib.hid ((hc2.cell (p := ⟨w.heap.size, 0, none⟩) (World.block_lt_of_cell? _ _ HK.out) (fun h => h)).trans HK.out)
    have RK2 := Lib.hid (RK.out.chg hc2 (fun h => h))
    clear hc2
    obtain ⟨W3, p3, q3, e3, c3, z3⟩ := sum_new w2 L1.out
    rw [zero32_lit] at p3 q3
    have E3 := Lib.hid e3; have C3 := Lib.hid c3
    clear e3 c3
    go_wp2_with fail
    refine Calls.mono (with_of (Rd.of_block E3.out L1.out (by unfold maxLen; omega)) (by omega) ((C3.out.cell (p := ⟨w.heap.size, 0, none⟩) (World.block_lt_of_cell? _ _ HK2.out) (fun h => h)).trans HK2.out) (RK2.out.chg C3.out (fun h => h)) k64 0x5c (by rfl) H2.out) ?_
    rintro e w4 ⟨rfl, hc4⟩
    have C34 := Lib.hid (C3.out.trans hc4)
    have O4 := Lib.hid ((C34.out.block _ (Array.getElem?_eq_some_iff.1 OK2.out).1 (fun h => h)).trans OK2.out)
    obtain ⟨W5, p5, q5, e5, c5⟩ := sum_put (old := List.replicate 32 0) O4.out (by simp) L2.out (CK2.out.trans C34.out) (by omega)
    have E5 := Lib.hid e5; have C5 := Lib.hid c5
    clear e5 c5 hc4 p3 q3
    go_wp2_with fail
    refine bodyPost_ret (v := .agg (S2.map bv).toArray) (results_cell_row (fn := Tryd.f13) (p := 4) (ty := 33) Tryd.results13 _ _ (w.heap.size + 1) 33 _ (0, 0) (.array 32 5) (by rfl) E5.out Tryd.underlying33 rfl (size_of Tryd.size_32 L2.out)) rfl ⟨by rw [HM.out, HF.out], C5.out⟩
  · have HM : Hid (hmac ks ls = hmac64 (sha ks) ls) := Lib.hid (by rw [hmac, if_pos (by have := HR.out.1; omega)])
    go_enter Tryd.func13, Tryd.ntmps13
    go_wp2_with fail
    rw [← zero32_lit]
    obtain ⟨WA, hWA⟩ : ∃ WA, WA = (w.alloc (.cells #[.slice ka kn kc] 29)).alloc (.cells (zeroV 32) 33) := ⟨_, rfl⟩
    rw [← hWA]
    have CA : Hid (Chg Non w WA) := Lib.hid (by rw [hWA]; exact ((Chg.refl _ _).alloc _).alloc _)
    have HA : Hid (WA.heap[w.heap.size]? = some (.cells #[.slice ka kn kc] 29 (0, 0))) := Lib.hid (by rw [hWA]; exact heap_alloc2_old w _ _)
    have OA : Hid (WA.heap[w.heap.size + 1]? = some (.cells (zeroV 32) 33 (0, 0))) := Lib.hid (by rw [hWA]; exact heap_alloc2_new w _ _)
    clear hWA
    refine Calls.mono (Of_any (HR.out.chg CA.out (fun h => h)) (by omega)) ?_
    rintro e w1 ⟨rfl, hc1⟩
    obtain ⟨ks', hks⟩ : ∃ ks', ks' = sha ks := ⟨_, rfl⟩
    have kl : ks'.length = 32 := by rw [hks]; exact sha_length _
    rw [← hks]
    rw [← hks] at HM
    clear hks
    have KL := Lib.hid kl; clear kl
    obtain ⟨W3, p3, q3, e3, c3, z3⟩ := sum_new w1 KL.out
    rw [zero32_lit] at p3 q3
    have hx3 := ((hc1.trans c3).block w.heap.size (Array.getElem?_eq_some_iff.1 HA.out).1 (fun h => h)).trans HA.out
    have ho3 := ((hc1.trans c3).block (w.heap.size + 1) (Array.getElem?_eq_some_iff.1 OA.out).1 (fun h => h)).trans OA.out
    have y3 : W3.cell? ⟨w.heap.size, 0, none⟩ = some (.slice ka kn kc) := newc hx3 rfl
    have f3 := frozen_of_row W3 w.heap.size 0 _ _ hx3
    have hlt1 : w.heap.size + 1 < w1.heap.size := Nat.lt_of_lt_of_le (Array.getElem?_eq_some_iff.1 OA.out).1 hc1.size
    have C3 := Lib.hid (CA.out.trans (hc1.trans c3)); have X3 := Lib.hid hx3; have O3 := Lib.hid ho3; have E3 := Lib.hid e3
    clear hc1 c3 hx3 ho3 e3
    go_wp2_with fail
    obtain ⟨WK, hWK⟩ : ∃ WK, WK = W3.setCell ⟨w.heap.size, 0, none⟩ (.slice (some ⟨w1.heap.size, 0, none⟩) 32 32) := ⟨_, rfl⟩
    rw [← hWK]
    have CK : Hid (Chg Non w WK) := Lib.hid (by rw [hWK]; exact C3.out.setCell (.inl (Nat.le_refl _)) _)
    have HK : Hid (WK.cell? ⟨w.heap.size, 0, none⟩ = some (.slice (some ⟨w1.heap.size, 0, none⟩) 32 32)) := Lib.hid (by rw [hWK]; exact newc (row_set X3.out 0 _) rfl)
    have OK1 : Hid (WK.heap[w.heap.size + 1]? = some (.cells (zeroV 32) 33 (0, 0))) := Lib.hid (by rw [hWK]; exact (heap_setCell_other _ _ _ _ (by simp)).trans O3.out)
    have RK : Hid (Rd WK w1.heap.size (some ⟨w1.heap.size, 0, none⟩) 32 32 ks') := Lib.hid (Rd.of_block (by rw [hWK]; exact (heap_setCell_other _ _ _ _ (by simp; omega)).trans E3.out) KL.out (by unfold maxLen; omega))
    clear hWK y3 f3 p3 q3 X3 O3
    have k64 : 32 ≤ 64 := by omega
    obtain ⟨S1, hS1⟩ : ∃ S1, S1 = sha (padKey ks' 0x36 ++ ls) := ⟨_, rfl⟩
    obtain ⟨S2, hS2⟩ : ∃ S2, S2 = sha (padKey ks' 0x5c ++ S1) := ⟨_, rfl⟩
    have l1 : S1.length = 32 := by rw [hS1]; exact sha_length _
    have l2 : S2.length = 32 := by rw [hS2]; exact sha_length _
    have HF : Hid (S2 = hmac64 ks' ls) := Lib.hid (by rw [hS2, hS1]; rfl)
    have H1 := Lib.hid hS1; have H2 := Lib.hid hS2; have L1 := Lib.hid l1; have L2 := Lib.hid l2
    clear hS1 hS2 l1 l2
    refine Calls.mono (with_of (HL.out.chg CK.out (fun h => h)) (by omega) HK.out RK.out k64 0x36 (by rfl) H1.out) ?_
    rintro e w2 ⟨rfl, hc2⟩
    have CK2 := Lib.hid (CK.out.trans hc2)
    have OK2 := Lib.hid ((hc2.block _ (Array.getElem?_eq_some_iff.1 OK1.out).1 (fun h => h)).trans OK1.out)
    have HK2 := Lib.hid ((hc2.cell (p := ⟨w.heap.size, 0, none⟩) (World.block_lt_of_cell? _ _ HK.out) (fun h => h)).trans HK.out)
    have RK2 := Lib.hid (RK.out.chg hc2 (fun h => h))
    clear hc2
    obtain ⟨W3, p3, q3, e3, c3, z3⟩ := sum_new w2 L1.out
    rw [zero32_lit] at p3 q3
    have E3 := Lib.hid e3; have C3 := Lib.hid c3
    clear e3 c3
    go_wp2_with fail
    refine Calls.mono (with_of (Rd.of_block E3.out L1.out (by unfold maxLen; omega)) (by omega) ((C3.out.cell (p := ⟨w.heap.size, 0, none⟩) (World.block_lt_of_cell? _ _ HK2.out) (fun h => h)).trans HK2.out) (RK2.out.chg C3.out (fun h => h)) k64 0x5c (by rfl) H2.out) ?_
    rintro e w4 ⟨rfl, hc4⟩
    have C34 := Lib.hid (C3.out.trans hc4)
    have O4 := Lib.hid ((C34.out.block _ (Array.getElem?_eq_some_iff.1 OK2.out).1 (fun h => h)).trans OK2.out)
    obtain ⟨W5, p5, q5, e5, c5⟩ := sum_put (old := List.replicate 32 0) O4.out (by simp) L2.out (CK2.out.trans C34.out) (by omega)
    have E5 := Lib.hid e5; have C5 := Lib.hid c5
    clear e5 c5 hc4 p3 q3
    go_wp2_with fail
    refine bodyPost_ret (v := .agg (S2.map bv).toArray) (results_cell_row (fn := Tryd.f13) (p := 4) (ty := 33) Tryd.results13 _ _ (w.heap.size + 1) 33 _ (0, 0) (.array 32 5) (by rfl) E5.out Tryd.underlying33 rfl (size_of Tryd.size_32 L2.out)) rfl ⟨by rw [HM.out, HF.out], C5.out⟩
end Go.Proofs.YtbmopcmhokpchaaDoor
