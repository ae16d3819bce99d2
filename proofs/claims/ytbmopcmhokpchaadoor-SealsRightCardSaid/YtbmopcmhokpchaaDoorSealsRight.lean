/- SealsRight, walked. -/
import Derived.Test.YtbmopcmhokpchaaDoorSealAlive
namespace Go.Proofs.YtbmopcmhokpchaaDoor
open Go.RowKit Go.Shelf
set_option linter.unusedVariables false
set_option linter.unusedSimpArgs false
attribute [local go_sem ↓] Go.wp_at_zero Go.wp_at_succ
/-- One byte of a block of the call's own turned. -/
theorem Rd.set {w : World} {g n cap : Nat} {bs : List UInt8} (h : Rd w g (some ⟨g, 0, none⟩) n cap bs) {j : Nat} (hj : j < n) (y : UInt8) : Rd (w.setCell ⟨g, j, none⟩ (bv y)) g (some ⟨g, 0, none⟩) n cap (bs.set j y) := by
  obtain ⟨h1, h2, h3, h4, h5⟩ := h
  refine ⟨by simp [h1], h2, h3, h4, fun hp => ?_⟩
  obtain ⟨off, ho, hc⟩ := h5 hp
  simp only [Option.some.injEq, Addr.mk.injEq, true_and, and_true] at ho
  subst ho
  refine ⟨0, rfl, fun i hi => ?_⟩
  have hci := hc i hi
  rw [Nat.zero_add] at hci ⊢
  by_cases e : i = j
  · subst e
    rw [World.cell?_setCell_same' _ _ _ (by rw [hci]; rfl)]
    simp [List.getD, show i < bs.length by omega]
  · have ho : (w.setCell ⟨g, j, none⟩ (bv y)).cell? ⟨g, i, none⟩ = w.cell? ⟨g, i, none⟩ := by
      apply World.cell?_setCell_other
      intro h
      simp at h
    rw [ho, hci]
    simp [List.getD, List.getElem?_set_ne (show j ≠ i by omega)]
set_option maxRecDepth 40000 in
set_option maxHeartbeats 4000000 in
theorem SealsRight_any (k nm : List UInt8) (u : Nat) (sg : List UInt8) (hu : u < 18446744073709551616) (bb ab : UInt8) (w : World) (htab : Lib.TabIs Tryd.prog w "internal/strconv.uint64pow10" .u64 Lib.pow10Tab) :
    Calls Tryd.prog 4 #[.agg (askCells k nm u sg), .int .u8 (bb.toNat : Int), .int .u8 (ab.toNat : Int)] w fun e w' => e = .returned (.bool true) ∧ Below w.heap.size w w' := by
  obtain ⟨w0, hw0⟩ : ∃ w0, w0 = w.alloc (.cells (askCells k nm u sg) 24) := ⟨_, rfl⟩
  have C0 : Hid (Chg Non w w0) := Lib.hid (by rw [hw0]; exact (Chg.refl _ _).alloc _)
  have A0 : Hid (w0.heap[w.heap.size]? = some (.cells (askCells k nm u sg) 24 (0, 0))) := Lib.hid (by rw [hw0]; exact heap_alloc_new _ _)
  have HT := Lib.hid (tab_chg htab C0.out); clear htab
  have HT0 : Hid (∀ w', Chg Non w0 w' → Lib.TabIs Tryd.prog w' "internal/strconv.uint64pow10" .u64 Lib.pow10Tab) := Lib.hid (fun w' h => tab_chg HT.out h)
  have hg := great_any k nm u sg
  have HB := Lib.hid (AskAt.mk' A0.out)
  have HU := Lib.hid hu; clear hu
  by_cases hgr : 3000 < k.length ∨ 3000 < nm.length ∨ 3000 < sg.length
  · rw [decide_eq_true hgr] at hg
    have k0 := HB.out.c0; have k1 := HB.out.c1; have k2 := HB.out.c2; have k3 := HB.out.c3
    unfold askCells at hw0 hg ⊢
    have HG := Lib.hid hg
    clear hg hgr HB
    go_enter Tryd.func4, Tryd.ntmps4
    go_wp2_with fail
    rw [← hw0]
    clear hw0
    refine Calls.mono (alive11_any _ (HT0.out _ (by simp))) ?_
    rintro e w1 ⟨rfl, hc1⟩
    have h1 : Chg Non w0 w1 := hc1
    have C1 := Lib.hid (hc1)
    go_wp2_with fail
    refine Calls.mono (HG.out _) ?_
    rintro e w2 ⟨rfl, hc2⟩
    have C2 := Lib.hid (C1.out.trans hc2); clear hc2 hc1 h1
    clear k0 k1 k2 k3
    go_wp2_with fail
    refine Calls.mono (alive11_any _ (HT0.out _ C2.out)) ?_
    rintro e w3 ⟨rfl, hc3⟩
    have C3 := Lib.hid (C0.out.trans (C2.out.trans hc3)); clear hc3
    go_wp2_with fail
    go_ret
    exact ⟨rfl, C3.out.belowN⟩
  · rw [decide_eq_false hgr] at hg
    have LK := Lib.hid (show k.length ≤ 3000 by omega); have LN := Lib.hid (show nm.length ≤ 3000 by omega)
    have k0 := HB.out.c0; have k1 := HB.out.c1; have k2 := HB.out.c2; have k3 := HB.out.c3
    unfold askCells at hw0 hg ⊢
    have HG := Lib.hid hg
    obtain ⟨s, hs⟩ : ∃ s, sealOf k nm u = s := ⟨_, rfl⟩
    have sl : s.length = 64 := by rw [← hs, sealOf_length]
    have HS := Lib.hid hs; have SL := Lib.hid sl
    clear hg hgr hs sl
    go_enter Tryd.func4, Tryd.ntmps4
    go_wp2_with fail
    rw [← hw0]
    clear hw0
    refine Calls.mono (alive11_any _ (HT0.out _ (by simp))) ?_
    rintro e w1 ⟨rfl, hc1⟩
    have h1 : Chg Non w0 w1 := hc1
    have C1 := Lib.hid (hc1)
    go_wp2_with fail
    refine Calls.mono (HG.out _) ?_
    rintro e w2 ⟨rfl, hc2⟩
    have h2 : Chg Non w0 w2 := C1.out.trans hc2
    clear hc2 hc1 h1
    go_wp2_with fail
    refine Calls.mono (Make_of (by have := LK.out; omega) (by have := LN.out; omega) HU.out HS.out _ (HT0.out _ h2)) ?_
    rintro e w3 ⟨rfl, hc3⟩
    have h3 : Chg Non w0 w3 := h2.trans hc3
    clear hc3 h2
    obtain ⟨cap, W4, hcv, hR4, hC4, hf4⟩ := conv_bytes w3 s (by have := SL.out; unfold maxLen; omega)
    have R4 := Lib.hid hR4; have F4 := Lib.hid hf4
    have h4 : Chg Non w0 W4 := h3.trans hC4
    have hs4 := (R4.out.string (P := Tryd.prog) Tryd.underlying29 Tryd.underlying5 Tryd.underlying9)
    rw [SL.out] at hs4
    clear hR4 hC4 hf4
    rw [SL.out] at hcv
    have e64 : (⟨s.toArray⟩ : ByteArray).size = 64 := by rw [ba_size, SL.out]
    go_wp2_with fail
    refine Calls.mono (Check_of (b := true) (by have := LK.out; omega) (by have := LN.out; omega) HU.out s (by rw [HS.out]; simp) _ (HT0.out _ h4)) ?_
    rintro e w5 ⟨rfl, hc5⟩
    have h5 : Chg Non w0 w5 := h4.trans hc5
    have R5 := Lib.hid (R4.out.chg hc5 (fun h => h))
    have z3 := h3.size
    have Z3 := Lib.hid z3
    clear hcv e64 hs4 h3 h4 z3
    obtain ⟨j, hj⟩ : ∃ j : Nat, ab.toNat % 64 = j := ⟨_, rfl⟩
    have hjt : (ab.toNat : Int).tmod 64 = (j : Int) := by rw [Int.tmod_eq_emod_of_nonneg (by omega)]; omega
    have hwt : IntKind.i64.wrap (ab.toNat : Int) = (ab.toNat : Int) := IntWalk.i64_in _ (by have := ab.toNat_lt; omega)
    have j64 : j < 64 := by omega
    have J64 := Lib.hid j64
    have L5 := Lib.hid (show s.length = 64 from SL.out)
    rw [SL.out] at R5
    obtain ⟨g5, hg5⟩ : ∃ g5, g5 = w3.heap.size := ⟨_, rfl⟩
    have G5 := Lib.hid hg5
    rw [← hg5] at R5 ⊢
    have sl1 := (R5.out.upto (P := Tryd.prog) (t := 29) Tryd.underlying29 (by kernel_rfl) .i64 (m := j) (by omega))
    obtain ⟨a2, sl2, r2⟩ := R5.out.from_ (P := Tryd.prog) (t := 29) Tryd.underlying29 (by kernel_rfl) .i64 (k := j) (by omega)
    obtain ⟨a3, sl3, r3⟩ := R5.out.from_ (P := Tryd.prog) (t := 29) Tryd.underlying29 (by kernel_rfl) .i64 (k := j + 1) (by omega)
    obtain ⟨sl1, r1⟩ := sl1
    have cv1 : ∀ q, (convert 29 9 (.slice (some ⟨g5, 0, none⟩) j cap)).run Tryd.prog (w5.drewN q) = .ok (.string ⟨(s.take j).toArray⟩) (w5.drewN q) := fun q => (r1.drewN q).string Tryd.underlying29 Tryd.underlying5 Tryd.underlying9
    have cv2 : ∀ q, (convert 29 9 (.slice a2 (64 - j) (cap - j))).run Tryd.prog (w5.drewN q) = .ok (.string ⟨(s.drop j).toArray⟩) (w5.drewN q) := fun q => (r2.drewN q).string Tryd.underlying29 Tryd.underlying5 Tryd.underlying9
    have cv3 : ∀ q, (convert 29 9 (.slice a3 (64 - (j + 1)) (cap - (j + 1)))).run Tryd.prog (w5.drewN q) = .ok (.string ⟨(s.drop (j + 1)).toArray⟩) (w5.drewN q) := fun q => (r3.drewN q).string Tryd.underlying29 Tryd.underlying5 Tryd.underlying9
    rw [show ((j + 1 : Nat) : Int) = (j : Int) + 1 by omega] at sl3
    generalize 64 - (j + 1) = q3 at sl3 cv3
    generalize cap - (j + 1) = p3 at sl3 cv3
    generalize 64 - j = q2 at sl2 cv2
    generalize cap - j = p2 at sl2 cv2
    obtain ⟨l1, hl1⟩ : ∃ l, s.take j = l := ⟨_, rfl⟩
    obtain ⟨l2, hl2⟩ : ∃ l, s.drop j = l := ⟨_, rfl⟩
    obtain ⟨l3, hl3⟩ : ∃ l, s.drop (j + 1) = l := ⟨_, rfl⟩
    have e1 : l1.length = j := by rw [← hl1, List.length_take, SL.out]; omega
    have e2 : l2.length = 64 - j := by rw [← hl2, List.length_drop, SL.out]
    have e3 : l3.length = 64 - (j + 1) := by rw [← hl3, List.length_drop, SL.out]
    rw [hl1] at cv1; rw [hl2] at cv2; rw [hl3] at cv3
    have ap1 : (⟨l1.toArray⟩ : ByteArray) ++ (⟨l3.toArray⟩ : ByteArray) = ⟨(l1 ++ l3).toArray⟩ := ba_append _ _
    have ap2 : (⟨l1.toArray⟩ : ByteArray) ++ (⟨#[48]⟩ : ByteArray) = ⟨(l1 ++ [48]).toArray⟩ := ba_append l1 [48]
    have ap3 : (⟨(l1 ++ [48]).toArray⟩ : ByteArray) ++ (⟨l2.toArray⟩ : ByteArray) = ⟨((l1 ++ [48]) ++ l2).toArray⟩ := ba_append _ _
    have n1 : ((l1 ++ [48]) ++ l2).length = 65 := by simp [e1, e2]; omega
    have n2 : (l1 ++ l3).length = 63 := by simp [e1, e3]; omega
    have n3 : (l1 ++ [48]).length ≤ 64 := by simp [e1]; omega
    have m1 : l1.length ≤ 64 := by omega
    have m2 : l2.length ≤ 64 := by omega
    have m3 : l3.length ≤ 64 := by omega
    obtain ⟨x, hx⟩ : ∃ x, s.getD j 0 = x := ⟨_, rfl⟩
    have HX := Lib.hid hx
    have cj : w5.cell? ⟨g5, j, none⟩ = some (.int .u8 (x.toNat : Int)) := by
      obtain ⟨off, ho, hc⟩ := R5.out.2.2.2.2 (by have := R5.out.2.1; omega)
      simp only [Option.some.injEq, Addr.mk.injEq, true_and, and_true] at ho
      subst ho
      have h := hc j j64
      rw [Nat.zero_add, hx] at h
      exact h
    have fj : w5.frozen? ⟨g5, j, none⟩ = false := by
      have hlt : g5 < W4.heap.size := by rw [hg5]; exact R4.out.lt (by rw [SL.out]; omega)
      rw [World.frozen?_of_block (w := W4) (a := ⟨g5, j, none⟩) (hc5.block g5 hlt (fun h => h)), hg5]
      exact F4.out j (by rw [SL.out]; exact j64)
    have hxor : bits .xor .u8 (x.toNat : Int) (bb.toNat : Int) = ((x ^^^ bb).toNat : Int) := by rw [u8_xor_nat _ _ x.toNat_lt bb.toNat_lt, ← UInt8.toNat_xor]
    obtain ⟨s', hs'⟩ : ∃ s', s.set j (x ^^^ bb) = s' := ⟨_, rfl⟩
    have S' : Hid (s.set j (x ^^^ bb) = s') := Lib.hid hs'
    have SI : Hid (s' = s ↔ bb = 0) := Lib.hid (by
      rw [← hs']
      constructor
      · intro e
        have h := congrArg (fun l : List UInt8 => l.getD j 0) e
        have h1 : (s.set j (x ^^^ bb)).getD j 0 = x ^^^ bb := by simp [List.getD, show j < s.length by rw [SL.out]; exact j64]
        have h2 : x ^^^ bb = x := by rw [← h1]; exact h.trans hx
        have h3 : x ^^^ (x ^^^ bb) = x ^^^ x := by rw [h2]
        rw [← UInt8.xor_assoc, UInt8.xor_self, UInt8.zero_xor] at h3
        exact h3
      · rintro rfl
        rw [UInt8.xor_zero, ← hx]
        apply List.ext_getElem?
        intro i
        by_cases e : i = j
        · subst e; simp [List.getD, show i < s.length by rw [SL.out]; exact j64]
        · rw [List.getElem?_set_ne (by omega)])
    generalize hxb : x ^^^ bb = xb at hxor hs' S'
    have hset : ∀ v, Chg Non w0 (w5.setCell ⟨g5, j, none⟩ v) := fun v => h5.setCell (.inl (by have := Z3.out; show _ ≤ g5; omega)) v
    have hset2 : ∀ q v, Chg Non w0 ((w5.drewN q).setCell ⟨g5, j, none⟩ v) := fun q v => (h5.drewN q).setCell (.inl (by have := Z3.out; show _ ≤ g5; omega)) v
    have hne : ¬ g5 = w.heap.size := by have := (Array.getElem?_eq_some_iff.1 A0.out).1; have := Z3.out; omega
    have R6 := Lib.hid (R5.out.set (j := j) j64 xb)
    rw [hs'] at R6
    clear hs' hx hxb
    generalize (l1 ++ [48]) ++ l2 = more at ap3 n1
    generalize l1 ++ l3 = less at ap1 n2
    generalize l1 ++ [48] = l4 at ap2 ap3 n3
    have N1 := Lib.hid n1; have N2 := Lib.hid n2
    clear hl1 hl2 hl3 e1 e2 e3 n1 n2 r1 r2 r3 hg5
    go_wp2_with fail
    go_quiet (fail)
    go_wp2_with fail
    go_quiet (fail)
    go_wp2_with fail
    refine Calls.mono (Check_of (b := false) (by have := LK.out; omega) (by have := LN.out; omega) HU.out less (by rw [HS.out, decide_eq_false_iff_not]; intro e; have h1 := N2.out; have h2 := SL.out; rw [e] at h1; omega) _ (HT0.out _ (by simp [hset, hset2]))) ?_
    rintro e w7 ⟨rfl, hc7⟩
    have h7 : Chg Non w0 w7 := Chg.trans (by simp [hset, hset2]) hc7
    have R7 := Lib.hid (Rd.chg (by first | exact R6.out | exact R6.out.drewN _) hc7 (fun h => h))
    clear hset hset2 h5 hc5 hc7 cj fj
    go_wp2_with fail
    refine Calls.mono (Check_of (b := false) (by have := LK.out; omega) (by have := LN.out; omega) HU.out more (by rw [HS.out, decide_eq_false_iff_not]; intro e; have h1 := N1.out; have h2 := SL.out; rw [e] at h1; omega) _ (HT0.out _ h7)) ?_
    rintro e w8 ⟨rfl, hc8⟩
    have h8 : Chg Non w0 w8 := h7.trans hc8
    have cv8 := (R7.out.chg hc8 (fun h => h)).string (P := Tryd.prog) Tryd.underlying29 Tryd.underlying5 Tryd.underlying9
    clear h7 hc8
    go_wp2_with fail
    have HBQ : Hid (decide (s' = sealOf k nm u) = ((bb.toNat : Int) == 0)) := by
      rw [HS.out, Bool.eq_iff_iff, decide_eq_true_iff, beq_iff_eq, SI.out]
      constructor
      · rintro rfl; rfl
      · intro e; exact UInt8.toNat_inj.1 (by simpa using e)
    refine Calls.mono (Check_of (by have := LK.out; omega) (by have := LN.out; omega) HU.out s' HBQ.out _ (HT0.out _ h8)) ?_
    rintro e w9 ⟨rfl, hc9⟩
    have C9 := Lib.hid (C0.out.trans (h8.trans hc9))
    clear h8 hc9 cv8
    go_wp2_with fail
    go_ret
    exact ⟨by simp, C9.out.belowN⟩
end Go.Proofs.YtbmopcmhokpchaaDoor
