/- LedgersPlays, walked. -/
import Derived.Test.YtdiabilcamomcaaLedPlays
namespace Go.Proofs.Ytdiabilcamomcaa
open Go.RowKit
set_option linter.unusedVariables false
set_option linter.unusedSimpArgs false
variable {w w' : World} {p m q g n cap : Nat} {A : List Nat} {ao : Option Addr} {T : List Ten} {L : Nat → Int}
def BothS (A : List Nat) (g k : Nat) : Prop := AdrS A k ∨ k = g
theorem boths_not {N : Nat} (hA : ∀ k, ledBlk p m A k → k ≠ N) (hg : g ≠ N) : ¬ BothS A g N := by
  rintro (⟨j, hj, e⟩ | e)
  · exact hA N (.inr (.inr ⟨j, hj, e⟩)) rfl
  · exact hg e.symm
set_option maxRecDepth 40000 in
set_option maxHeartbeats 4000000 in
theorem LedgersPlays_any {len : Nat} (h : Tens w ao len cap T) (hok : ∀ i, i < len → TenOk (nth T i)) {so : Option Addr} {sn scap : Nat} (hs : Plays w so sn scap) :
    Calls Try.prog 4 #[.slice ao len cap, .slice so sn scap] w fun e w' => e = .returned (.bool true) ∧ Below w.heap.size w w' := by
  have hcap := h.2.2.1
  have hlc := h.2.1
  have hscap := hs.2.1
  have hsl := hs.1
  unfold maxLen at hcap hscap
  have HT := Lib.hid h; have HO := Lib.hid hok; have HP := Lib.hid hs
  clear h hok hs
  by_cases ha : sn ≤ 300
  · by_cases hl : len ≤ 100
    · go_enter Try.func4, Try.ntmps4
      go_wp2_with fail
      refine Calls.mono (TenantsSize_any HT.out) ?_
      rintro e w0 ⟨z, q0, rfl, rfl⟩
      have T0 := Lib.hid (HT.out.drewN q0)
      by_cases hz : z ≤ 20000
      · go_wp2_with fail
        refine Calls.mono (TwinTenants_any T0.out hl) ?_
        rintro e w1 ⟨gt, ct, rfl, ho1, hc1⟩
        have T1 := Lib.hid (T0.out.non hc1)
        have O1 := Lib.hid ho1
        have C1 := Lib.hid (((Chg.refl Non w).drewN q0).trans hc1)
        have hgt : w.heap.size ≤ gt ∧ gt < w1.heap.size := ho1.lt gt rfl
        have hle1 := ho1.le
        clear ho1 hc1
        go_wp2_with fail
        refine Calls.mono (New_any (twin_tens O1.out HT.out.1) HO.out) ?_
        rintro e w2 ⟨hc2, hres⟩
        have T2 := Lib.hid (T1.out.non hc2)
        have O2 := Lib.hid (O1.out.chg hc2 (fun _ _ h => h))
        have C2 := Lib.hid (C1.out.trans hc2)
        rcases hres with ⟨hM, p, m, A, rfl, hl2, hb2⟩ | ⟨hM, rfl⟩
        · have L2 := Lib.hid hl2; have M := Lib.hid hM
          have B2 : Hid (∀ k, ledBlk p m A k → w.heap.size ≤ k ∧ gt < k ∧ k < w2.heap.size) := fun k hk => ⟨by have := hb2 k hk; have := C1.out.size; omega, by have := hb2 k hk; omega, hl2.lt hk⟩
          clear hl2 hb2 hc2 hM
          go_wp2_with fail
          refine Calls.mono (refNew_any T2.out HO.out) ?_
          rintro e w3 ⟨hc3, hr3⟩
          rcases hr3 with ⟨_, q, g, rfl, hr, hg, hq⟩ | ⟨hn, _⟩
          · have L3 := Lib.hid (L2.out.non hc3)
            have R3 := Lib.hid hr
            have T3 := Lib.hid (T2.out.non hc3)
            have O3 := Lib.hid (O2.out.chg hc3 (fun _ _ h => h))
            have C3 := Lib.hid (C2.out.trans hc3)
            have S3 : Hid (LedSep w.heap.size p m q g A ao len) := by
              have h2 := C2.out.size
              refine ⟨fun k hk => ?_, by omega, by omega, fun a ea => ?_, ?_⟩
              · have := B2.out k hk
                exact ⟨this.1, by omega, by omega⟩
              · have hp := hr.pos
                obtain ⟨b, off, e1, hb, _⟩ := HT.out.2.2.2.2 (by omega)
                rw [e1] at ea
                cases ea
                exact hb
              · exact L2.out.len.trans HT.out.1
            have X3 : Hid (gt ≠ g) := by
              have h2 := C2.out.size
              have := C1.out.size
              intro e
              have := B2.out p (.inl rfl)
              omega
            have X4 : Hid (gt ≠ q) := by
              intro e
              have := B2.out p (.inl rfl)
              omega
            clear hr hg hq hc3 T2 O2 C2 L2 T1 O1 C1
            go_wp2_with fail
            refine Calls.mono (LeftTenants_any O3.out T3.out hl) ?_
            rintro e w4 ⟨rfl, hc4⟩
            have L4 := Lib.hid (L3.out.non hc4)
            have R4 := Lib.hid (R3.out.non hc4)
            have O4 := Lib.hid (O3.out.chg hc4 (fun _ _ h => h))
            have C4 := Lib.hid (C3.out.trans hc4)
            clear hc4 L3 R3 O3 C3 T3
            have hblk : ∃ cur, w4.heap[gt]? = some (.cells cur 28 (0, 0)) ∧ len * 3 ≤ cur.size := by
              obtain ⟨_, h2, _, _, h5⟩ := O4.out
              obtain ⟨g', cur, e, _, hg', hcs, _⟩ := h5 _ rfl
              cases e
              exact ⟨cur, hg', by omega⟩
            have HB := Lib.hid hblk; clear hblk
            go_wp2_with fail
            go_loopw [10] (fun i wr => ∃ (k : Nat) (cur : Array Value), k ≤ len ∧ i = .int .i64 k ∧ wr.heap[gt]? = some (.cells cur 28 (0, 0)) ∧ len * 3 ≤ cur.size ∧ Chg (fun j => j = gt) w4 wr) (fun i _ => len - (intOf i).toNat)
            case atStart =>
              obtain ⟨cur, h1, h2⟩ := HB.out
              exact ⟨0, cur, by omega, rfl, h1, h2, Chg.refl _ _⟩
            case round =>
              obtain ⟨k, cur, hk, rfl, hg, hcs, hc⟩ := hrel
              by_cases hlt : k < len
              · obtain ⟨y, hy⟩ : ∃ y, wr.cell? ⟨gt, k * 3 + 2, none⟩ = some y := by
                  rw [cell_of_row wr gt (k * 3 + 2) cur _ _ hg]
                  exact ⟨_, Array.getElem?_eq_getElem (show k * 3 + 2 < cur.size by omega)⟩
                have fy := frozen_of_row wr gt (k * 3 + 2) cur _ hg
                have HG := Lib.hid (row_set hg (k * 3 + 2) (.int .i64 1))
                have HC := Lib.hid (Chg.setCell (S := fun j => j = gt) hc (p := ⟨gt, k * 3 + 2, none⟩) (.inr rfl) (.int .i64 1))
                clear hg hc
                have k0 : (0 : Int) ≤ (k : Int) := by omega
                have k1 : (k : Int) < (len : Int) := by omega
                go_wp2_with fail
                go_roundw
                case rel => exact ⟨k + 1, _, by omega, by go_num, HG.out, by simpa using hcs, HC.out⟩
                case measure => simp [intOf]; omega
              · have CR := Lib.hid hc
                have C5 : Hid (Chg Non w wr) := C4.out.next hc (fun i hi e => by subst e; omega)
                have L5 : Hid (LedAt wr p m A T (fun _ => 0)) := L4.out.chg hc (fun k hk e => by have := B2.out k hk; omega)
                have R5 : Hid (RefAt wr q g ao len cap T (fun _ => 0)) := R4.out.chg hc (fun e => X4.out e.symm) (fun e => X3.out e.symm) (fun a ea e => by have := S3.out.ha a ea; omega)
                have ZL : Hid (LOk (fun _ => 0)) := fun j => ⟨Int.le_refl _, by show (0 : Int) ≤ _; omega⟩
                have HAL : Hid (A.length = len) := S3.out.len
                clear hc hg hcs HB C4 L4 R4 O4 CR
                obtain ⟨wo, rfl⟩ : ∃ wo : World, wo = wr := ⟨_, rfl⟩
                go_wp2_with fail
                go_loopw [11] (fun i wr => ∃ (k : Nat) (L : Nat → Int), k ≤ sn ∧ i = .int .i64 k ∧ LedAt wr p m A T L ∧ RefAt wr q g ao len cap T L ∧ LOk L ∧ Chg Non w wr) (fun i _ => sn - (intOf i).toNat)
                case atStart => exact ⟨0, _, by omega, rfl, L5.out, R5.out, ZL.out, C5.out⟩
                case round =>
                  clear L5 R5 C5 ZL hlt hk
                  obtain ⟨k, L, hk, rfl, hl, hr, hL, hc⟩ := hrel
                  have LR := Lib.hid hl; have RR := Lib.hid hr; have LO := Lib.hid hL; have CR := Lib.hid hc
                  clear hl hr hL hc
                  by_cases hlt : k < sn
                  · obtain ⟨b, off, rfl, hb, hP⟩ := HP.out.2.2 (by omega)
                    obtain ⟨kd, t, z, s, hkd, h0, h1, h2, h3⟩ := (hP k hlt).chg CR.out hb (fun h => h)
                    clear hP
                    obtain ⟨K, hK⟩ : ∃ K : Int, K = (kd : Int) := ⟨_, rfl⟩
                    rw [← hK] at h0
                    have K0 : 0 ≤ K := by omega
                    have K1 : K ≤ 255 := by omega
                    clear hK hkd
                    obtain ⟨wx, hwx⟩ : ∃ wx, wx = wr.alloc (.cells #[.int .u8 K, .int .i64 t, .int .i64 z, .string s] 48) := ⟨_, rfl⟩
                    have hcx : Chg Non wr wx := by rw [hwx]; exact (Chg.refl _ _).alloc _
                    have hgx : wx.heap[wr.heap.size]? = some (.cells #[.int .u8 K, .int .i64 t, .int .i64 z, .string s] 48 (0, 0)) := by rw [hwx]; exact heap_alloc_new wr _
                    have LX := Lib.hid (LR.out.non hcx); have RX := Lib.hid (RR.out.non hcx); have CX := Lib.hid (CR.out.trans hcx)
                    have WX := Lib.hid hwx; have GX := Lib.hid hgx
                    have XA : Hid (∀ k, ledBlk p m A k → k ≠ wr.heap.size) := fun k hk e => by have := LR.out.lt hk; omega
                    have XG : Hid (g ≠ wr.heap.size) := fun e => by have := (Array.getElem?_eq_some_iff.1 RR.out.left).1; omega
                    clear hwx hcx hgx
                    have hcase : K % 5 = 0 ∨ (K % 5 = 1 ∨ K % 5 = 2) ∨ K % 5 = 3 ∨ K % 5 = 4 := by omega
                    rcases hcase with hq | hq | hq | hq
                    · have q0 : (K % 5 == 0) = true := by simp [hq]
                      clear hq
                      go_wp2_with fail
                      rw [← WX.out]
                      refine Calls.mono (Tick_yes LX.out) ?_
                      rintro e w5 ⟨rfl, hl5, hc5⟩
                      have C5 := Lib.hid (S3.out.non_a CX.out hc5)
                      have R5 := Lib.hid (S3.out.ref_a RX.out hc5)
                      have L5 := Lib.hid hl5
                      clear hl5 hc5
                      go_wp2_with fail
                      refine Calls.mono (refTick_any R5.out) ?_
                      rintro e w6 ⟨rfl, hr6, hc6⟩
                      have C6 := Lib.hid (S3.out.non_g C5.out hc6)
                      have L6 := Lib.hid (S3.out.led_g L5.out hc6)
                      have R6 := Lib.hid hr6
                      clear hr6 hc6
                      go_wp2_with fail
                      go_roundw
                      case rel => exact ⟨k + 1, _, by omega, by go_num, L6.out, R6.out, M.out.lok, C6.out⟩
                      case measure => simp [intOf]; omega
                    · have q0 : (K % 5 == 0) = false := by rcases hq with hq | hq <;> simp [hq]
                      have LXA : Hid (∀ w', Chg (fun k => k = g) wx w' → LedAt w' p m A T L) := fun w' h => S3.out.led_g LX.out h
                      have RXA : Hid (∀ w', Chg (AdrS A) wx w' → RefAt w' q g ao len cap T L) := fun w' h => S3.out.ref_a RX.out h
                      have xs : ∀ w', Chg (BothS A g) wx w' → w'.heap[wr.heap.size]? = some (.cells #[.int .u8 K, .int .i64 t, .int .i64 z, .string s] 48 (0, 0))   := fun w' h => by
                        rw [h.block _ (Array.getElem?_eq_some_iff.1 GX.out).1 (boths_not XA.out XG.out)]
                        exact GX.out
                      have x1 : ∀ w', Chg (BothS A g) wx w' → w'.cell? ⟨wr.heap.size, 1, none⟩ = some (.int .i64 t) := fun w' h => by rw [cell_of_row w' _ 1 _ _ _ (xs w' h)]; rfl
                      have x2 : ∀ w', Chg (BothS A g) wx w' → w'.cell? ⟨wr.heap.size, 2, none⟩ = some (.int .i64 z) := fun w' h => by rw [cell_of_row w' _ 2 _ _ _ (xs w' h)]; rfl
                      clear xs
                      rcases hq with hq | hq
                      · have q1 : (K % 5 == 1) = true := by simp [hq]
                        clear hq
                        go_wp2_with fail
                        rw [← WX.out]
                        go_region_held3 (fun w' => Chg (BothS A g) wx w') (first | exact K5.out | exact K4.out | (simp; exact K5.out) | (simp; exact K4.out) | (simp; done)) (first
                          | (go_at_call 12; refine Calls.mono (spend_det (LXA.out _ (by first | exact D5.out | simpa using D5.out)) LO.out HAL.out t z) ?_; rintro e w4 ⟨rfl, hl4, hc4⟩; have hc4 : Chg (AdrS A) _ w4 := hc4; have LF := Lib.hid hl4; have RF := Lib.hid (S3.out.ref_a R5.out (w' := w4) (by first | exact hc4 | simpa using hc4)); have CF := Lib.hid (S3.out.non_a C5.out (w' := w4) (by first | exact hc4 | simpa using hc4)); have K4 : Hid (Chg (BothS A g) wx w4) := K5.out.trans (Chg.mono (S := AdrS A) (by first | exact hc4 | simpa using hc4) (fun k _ h => Or.inl h)); clear hl4 hc4 K5)
                          | (go_at_call 12; refine Calls.mono (spend_det (LXA.out _ (by simp)) LO.out HAL.out t z) ?_; rintro e w4 ⟨rfl, hl4, hc4⟩; have hc4 : Chg (AdrS A) _ w4 := hc4; have L4 := Lib.hid hl4; have D4 := Lib.hid (show Chg (AdrS A) wx w4 from (by first | exact hc4 | simpa using hc4)); have C4 := Lib.hid (S3.out.non_a CX.out D4.out); have K4 : Hid (Chg (BothS A g) wx w4) := D4.out.mono (fun k _ h => Or.inl h); clear hl4 hc4)
                          | (go_at_call 19; refine Calls.mono (refSpend_det (RXA.out _ (by first | exact D4.out | simpa using D4.out)) LO.out t z) ?_; rintro e w5 ⟨rfl, hl5, hc5⟩; have RF := Lib.hid hl5; have LF := Lib.hid (S3.out.led_g L4.out (w' := w5) (by first | exact hc5 | simpa using hc5)); have CF := Lib.hid (S3.out.non_g C4.out (w' := w5) (by first | exact hc5 | simpa using hc5)); have K5 : Hid (Chg (BothS A g) wx w5) := K4.out.trans (Chg.mono (S := fun k => k = g) (by first | exact hc5 | simpa using hc5) (fun k _ h => Or.inr h)); clear hl5 hc5 K4)
                          | (go_at_call 19; refine Calls.mono (refSpend_det (RXA.out _ (by simp)) LO.out t z) ?_; rintro e w5 ⟨rfl, hl5, hc5⟩; have R5 := Lib.hid hl5; have D5 := Lib.hid (show Chg (fun k => k = g) wx w5 from (by first | exact hc5 | simpa using hc5)); have C5 := Lib.hid (S3.out.non_g CX.out D5.out); have K5 : Hid (Chg (BothS A g) wx w5) := D5.out.mono (fun k _ h => Or.inr h); clear hl5 hc5))
                        all_goals go_wp2_with fail
                        all_goals go_roundw
                        all_goals first
                          | exact ⟨k + 1, _, by omega, by go_num, LF.out, RF.out, spL_ok LO.out t z, CF.out⟩
                          | (simp [intOf]; omega)
                      · have q1 : (K % 5 == 1) = false := by simp [hq]
                        have q2 : (K % 5 == 2) = true := by simp [hq]
                        clear hq
                        go_wp2_with fail
                        rw [← WX.out]
                        go_region_held3 (fun w' => Chg (BothS A g) wx w') (first | exact K5.out | exact K4.out | (simp; exact K5.out) | (simp; exact K4.out) | (simp; done)) (first
                          | (go_at_call 12; refine Calls.mono (spend_det (LXA.out _ (by first | exact D5.out | simpa using D5.out)) LO.out HAL.out t z) ?_; rintro e w4 ⟨rfl, hl4, hc4⟩; have hc4 : Chg (AdrS A) _ w4 := hc4; have LF := Lib.hid hl4; have RF := Lib.hid (S3.out.ref_a R5.out (w' := w4) (by first | exact hc4 | simpa using hc4)); have CF := Lib.hid (S3.out.non_a C5.out (w' := w4) (by first | exact hc4 | simpa using hc4)); have K4 : Hid (Chg (BothS A g) wx w4) := K5.out.trans (Chg.mono (S := AdrS A) (by first | exact hc4 | simpa using hc4) (fun k _ h => Or.inl h)); clear hl4 hc4 K5)
                          | (go_at_call 12; refine Calls.mono (spend_det (LXA.out _ (by simp)) LO.out HAL.out t z) ?_; rintro e w4 ⟨rfl, hl4, hc4⟩; have hc4 : Chg (AdrS A) _ w4 := hc4; have L4 := Lib.hid hl4; have D4 := Lib.hid (show Chg (AdrS A) wx w4 from (by first | exact hc4 | simpa using hc4)); have C4 := Lib.hid (S3.out.non_a CX.out D4.out); have K4 : Hid (Chg (BothS A g) wx w4) := D4.out.mono (fun k _ h => Or.inl h); clear hl4 hc4)
                          | (go_at_call 19; refine Calls.mono (refSpend_det (RXA.out _ (by first | exact D4.out | simpa using D4.out)) LO.out t z) ?_; rintro e w5 ⟨rfl, hl5, hc5⟩; have RF := Lib.hid hl5; have LF := Lib.hid (S3.out.led_g L4.out (w' := w5) (by first | exact hc5 | simpa using hc5)); have CF := Lib.hid (S3.out.non_g C4.out (w' := w5) (by first | exact hc5 | simpa using hc5)); have K5 : Hid (Chg (BothS A g) wx w5) := K4.out.trans (Chg.mono (S := fun k => k = g) (by first | exact hc5 | simpa using hc5) (fun k _ h => Or.inr h)); clear hl5 hc5 K4)
                          | (go_at_call 19; refine Calls.mono (refSpend_det (RXA.out _ (by simp)) LO.out t z) ?_; rintro e w5 ⟨rfl, hl5, hc5⟩; have R5 := Lib.hid hl5; have D5 := Lib.hid (show Chg (fun k => k = g) wx w5 from (by first | exact hc5 | simpa using hc5)); have C5 := Lib.hid (S3.out.non_g CX.out D5.out); have K5 : Hid (Chg (BothS A g) wx w5) := D5.out.mono (fun k _ h => Or.inr h); clear hl5 hc5))
                        all_goals go_wp2_with fail
                        all_goals go_roundw
                        all_goals first
                          | exact ⟨k + 1, _, by omega, by go_num, LF.out, RF.out, spL_ok LO.out t z, CF.out⟩
                          | (simp [intOf]; omega)
                    · have q0 : (K % 5 == 0) = false := by simp [hq]
                      have q1 : (K % 5 == 1) = false := by simp [hq]
                      have q2 : (K % 5 == 2) = false := by simp [hq]
                      have q3 : (K % 5 == 3) = true := by simp [hq]
                      clear hq
                      go_wp2_with fail
                      rw [← WX.out]
                      refine Calls.mono (left_det LX.out HAL.out t) ?_
                      rintro e w5 ⟨rfl, rfl⟩
                      have x1 : wx.cell? ⟨wr.heap.size, 1, none⟩ = some (.int .i64 t) := by rw [cell_of_row wx _ 1 _ _ _ GX.out]; rfl
                      go_wp2_with fail
                      refine Calls.mono (refLeft_det RX.out t) ?_
                      rintro e w5 ⟨rfl, rfl⟩
                      go_wp2_with fail
                      go_roundw
                      case rel => exact ⟨k + 1, _, by omega, by go_num, LX.out, RX.out, LO.out, CX.out⟩
                      case measure => simp [intOf]; omega
                    · have q0 : (K % 5 == 0) = false := by simp [hq]
                      have q1 : (K % 5 == 1) = false := by simp [hq]
                      have q2 : (K % 5 == 2) = false := by simp [hq]
                      have q3 : (K % 5 == 3) = false := by simp [hq]
                      clear hq
                      go_wp2_with fail
                      rw [← WX.out]
                      refine Calls.mono (find_det LX.out HAL.out s) ?_
                      rintro e w5 ⟨x, i5, f5, rfl, hf5, hc5⟩
                      have F5 := Lib.hid hf5
                      have L5 := Lib.hid (LX.out.non hc5)
                      have R5 := Lib.hid (RX.out.non hc5)
                      have C5 := Lib.hid (CX.out.trans hc5)
                      have x3 : w5.cell? ⟨wr.heap.size, 3, none⟩ = some (.string s) := by
                        rw [cell_of_row w5 _ 3 _ _ _ ((hc5.block _ (Array.getElem?_eq_some_iff.1 GX.out).1 (fun h => h)).trans GX.out)]; rfl
                      have hz5 : wr.heap.size < w5.heap.size := by have := hc5.size; have := (Array.getElem?_eq_some_iff.1 GX.out).1; omega
                      clear hf5 hc5
                      unfold Ten.val
                      go_wp2_with fail
                      obtain ⟨wy, hwy⟩ : ∃ wy, wy = w5.alloc (.cells #[.string x.name, .string x.key, .int .i64 x.rate] 28) := ⟨_, rfl⟩
                      have hcy : Chg Non w5 wy := by rw [hwy]; exact (Chg.refl _ _).alloc _
                      have hgy : wy.heap[w5.heap.size]? = some (.cells #[.string x.name, .string x.key, .int .i64 x.rate] 28 (0, 0)) := by rw [hwy]; exact heap_alloc_new w5 _
                      rw [← hwy]
                      clear hwy
                      refine Calls.mono (refFind_det (R5.out.non hcy) s) ?_
                      rintro e w7 ⟨y, i7, f7, rfl, hf7, hc7⟩
                      obtain ⟨rfl, rfl, rfl⟩ := F5.out.uniq M.out HT.out.1 hf7
                      have hg7 := (hc7.block _ (Array.getElem?_eq_some_iff.1 hgy).1 (fun h => h)).trans hgy
                      obtain ⟨y0, y1, y2, _, _, _⟩ := res_cells hg7
                      have hz7 : w5.heap.size < w7.heap.size := (Array.getElem?_eq_some_iff.1 hg7).1
                      have L7 := Lib.hid (L5.out.non (hcy.trans hc7))
                      have R7 := Lib.hid (R5.out.non (hcy.trans hc7))
                      have C7 := Lib.hid (C5.out.trans (hcy.trans hc7))
                      clear hf7 hcy hgy hc7 hg7
                      unfold Ten.val
                      go_wp2_with fail
                      go_roundw
                      case rel => exact ⟨k + 1, _, by omega, by go_num, L7.out.non ((Chg.refl _ _).alloc _), R7.out.non ((Chg.refl _ _).alloc _), LO.out, C7.out.alloc _⟩
                      case measure => simp [intOf]; omega
                  · go_wp2_with fail
                    go_ret
                    exact ⟨rfl, CR.out.belowN⟩
          · exact absurd M.out hn
        · have M := Lib.hid hM; clear hM
          clear hc2
          go_wp2_with fail
          refine Calls.mono (refNew_any T2.out HO.out) ?_
          rintro e w3 ⟨hc3, hr3⟩
          rcases hr3 with ⟨hM, _⟩ | ⟨_, rfl⟩
          · exact absurd hM M.out
          · have T3 := Lib.hid (T2.out.non hc3)
            have O3 := Lib.hid (O2.out.chg hc3 (fun _ _ h => h))
            have C3 := Lib.hid (C2.out.trans hc3)
            clear hc3
            go_wp2_with fail
            refine Calls.mono (LeftTenants_any O3.out T3.out hl) ?_
            rintro e w4 ⟨rfl, hc4⟩
            have C4 := Lib.hid (C3.out.trans hc4)
            clear hc4
            go_wp2_with fail
            go_ret
            exact ⟨rfl, C4.out.belowN⟩
      · go_wp2_with fail
        go_ret
        exact ⟨rfl, ((Chg.refl _ _).drewN q0).belowN⟩
    · go_enter Try.func4, Try.ntmps4
      go_wp2_with fail
      go_ret
      exact ⟨rfl, (Chg.refl _ _).belowN⟩
  · go_enter Try.func4, Try.ntmps4
    go_wp2_with fail
    go_ret
    exact ⟨rfl, (Chg.refl _ _).belowN⟩
end Go.Proofs.Ytdiabilcamomcaa
