/- SumsOf, walked. -/
import Derived.Test.YtbmopcmhokpchaaShaRefKey
namespace Go.Proofs.Ytbmopcmhokpchaa
open Go.RowKit
set_option linter.unusedVariables false
set_option linter.unusedSimpArgs false
attribute [local go_sem ↓] Go.wp_at_zero Go.wp_at_succ
theorem refKeyed_of {S : List UInt8} {w : World} {kb : Nat} {ka : Option Addr} {kn kc : Nat} {ks : List UInt8} {b : Nat} {ao : Option Addr} {n cap : Nat} {ls : List UInt8} (hS : S = hmac ks ls) (hr : Rd w kb ka kn kc ks) (hkn : kn ≤ 900000) (h : Rd w b ao n cap ls) (hn : n ≤ 900000) :
    Calls Try.prog 28 #[.slice ka kn kc, .slice ao n cap] w fun e w' => e = .returned (.agg (S.map bv).toArray) ∧ Chg Non w w' := by subst hS; exact refKeyed_any hr hkn h hn
theorem twin_keep {w w' : World} {B g n cap : Nat} {bs : List UInt8} (h : IsTwin w B g n cap bs) (hc : Chg Non w w') : IsTwin w' B g n cap bs := Own.chg h hc (fun _ _ h => h)
theorem twin_rd {w : World} {B g n cap : Nat} {bs : List UInt8} (h : IsTwin w B g n cap bs) (hn : bs.length = n) : ∃ b, Rd w b (some ⟨g, 0, none⟩) n cap bs := by
  obtain ⟨b, _, h1, h2, h3, h4, h5⟩ := Rd.of_Own h
  refine ⟨b, hn, by omega, h3, h4, fun hp => ?_⟩
  obtain ⟨off, ho, hc⟩ := h5 hp
  refine ⟨off, ho, fun i hi => ?_⟩
  rw [hc i (by omega)]
  simp [List.getD, List.getElem?_append_left (show i < bs.length by omega)]
attribute [local go_sem ↓] run_load_row_op run_store_row_op in
set_option maxRecDepth 40000 in
set_option maxHeartbeats 6000000 in
theorem SumsOf_any {w : World} {b : Nat} {ao : Option Addr} {n cap : Nat} {ls : List UInt8} (h : Rd w b ao n cap ls) {kb : Nat} {ka : Option Addr} {kn kc : Nat} {ks : List UInt8} (hr : Rd w kb ka kn kc ks) :
    Calls Try.prog 6 #[.slice ao n cap, .slice ka kn kc] w fun e w' => e = .returned (.bool true) ∧ Below w.heap.size w w' := by
  have HL := Lib.hid h; have HR := Lib.hid hr
  clear h hr
  by_cases h1 : n ≤ 5000
  · by_cases h2 : kn ≤ 5000
    · go_enter Try.func6, Try.ntmps6
      go_wp2_with fail
      refine Calls.mono (TwinBytes_any HL.out (by omega)) ?_
      rintro e w1 ⟨g1, cap1, rfl, ht1, hc1⟩
      have T1 := Lib.hid ht1; have C1 := Lib.hid hc1
      clear ht1 hc1
      go_wp2_with fail
      refine Calls.mono (TwinBytes_any (HR.out.chg C1.out (fun h => h)) (by omega)) ?_
      rintro e w2 ⟨g2, cap2, rfl, ht2, hc2⟩
      have T2 := Lib.hid ht2; have C2 := Lib.hid (C1.out.trans hc2)
      have T1' := Lib.hid (twin_keep T1.out hc2)
      clear ht2 hc2 T1
      obtain ⟨b1, hb1⟩ := twin_rd T1'.out HL.out.1
      obtain ⟨b2, hb2⟩ := twin_rd T2.out HR.out.1
      have R1 := Lib.hid hb1; have R2 := Lib.hid hb2
      obtain ⟨S1, hS1⟩ : ∃ S1, S1 = sha ls := ⟨_, rfl⟩
      obtain ⟨S2, hS2⟩ : ∃ S2, S2 = hmac ks ls := ⟨_, rfl⟩
      have H1 := Lib.hid hS1; have H2 := Lib.hid hS2
      have L1 := Lib.hid (show S1.length = 32 by rw [hS1]; exact sha_length _)
      have L2 := Lib.hid (show S2.length = 32 by rw [hS2]; exact hmac_length _ _)
      clear hb1 hb2 hS1 hS2
      go_wp2_with fail
      refine Calls.mono (Of_of H1.out R1.out (by omega)) ?_
      rintro e w3 ⟨rfl, hc3⟩
      obtain ⟨W3, p3, q3, e3, c3, z3⟩ := sum_new w3 L1.out
      rw [zero32_lit] at p3 q3
      have C3 := Lib.hid (hc3.trans c3); have E3 := Lib.hid e3
      clear hc3 c3 e3
      go_wp2_with fail
      refine Calls.mono (Keyed_of H2.out (R2.out.chg C3.out (fun h => h)) (by omega) (R1.out.chg C3.out (fun h => h)) (by omega)) ?_
      rintro e w4 ⟨rfl, hc4⟩
      obtain ⟨W5, p5, q5, e5, c5, z5⟩ := sum_new w4 L2.out
      rw [zero32_lit] at p5 q5
      have e3' := ((hc4.trans c5).block _ (Array.getElem?_eq_some_iff.1 E3.out).1 (fun h => h)).trans E3.out
      have C35 := Lib.hid (C3.out.trans (hc4.trans c5))
      have K1 : Hid (∀ w', Chg Non W5 w' → w'.heap[w3.heap.size]? = some (.cells (S1.map bv).toArray 22 (0, 0))) := Lib.hid (fun w' h => (h.block _ (Array.getElem?_eq_some_iff.1 e3').1 (fun h => h)).trans e3')
      have K2 : Hid (∀ w', Chg Non W5 w' → w'.heap[w4.heap.size]? = some (.cells (S2.map bv).toArray 22 (0, 0))) := Lib.hid (fun w' h => (h.block _ (Array.getElem?_eq_some_iff.1 e5).1 (fun h => h)).trans e5)
      have hR1 : ∀ w', Chg Non W5 w' → IsRowAt Try.prog 22 w' (.pointer (some ⟨w3.heap.size, 0, none⟩)) := fun w' h => IsRowAt.mk (K1.out w' h) Try.underlying22 rfl (size_of Try.size_32 L1.out)
      have hV1 : ∀ w', Chg Non W5 w' → rowAt w' (.pointer (some ⟨w3.heap.size, 0, none⟩)) = .agg (S1.map bv).toArray := fun w' h => rowAt_mk (K1.out w' h)
      have hR2 : ∀ w', Chg Non W5 w' → IsRowAt Try.prog 22 w' (.pointer (some ⟨w4.heap.size, 0, none⟩)) := fun w' h => IsRowAt.mk (K2.out w' h) Try.underlying22 rfl (size_of Try.size_32 L2.out)
      have hV2 : ∀ w', Chg Non W5 w' → rowAt w' (.pointer (some ⟨w4.heap.size, 0, none⟩)) = .agg (S2.map bv).toArray := fun w' h => rowAt_mk (K2.out w' h)
      have heq1 := equal_self L1.out
      have heq2 := equal_self L2.out
      have C5 := Lib.hid (C2.out.trans C35.out)
      have T15 := Lib.hid (twin_keep T1'.out C35.out); have T25 := Lib.hid (twin_keep T2.out C35.out)
      clear hc4 c5 e5 e3'
      go_wp2_with fail
      clear p3 q3 p5 q5
      go_region_with (first
        | (go_at_call 27; (refine Calls.mono (refOf_of H1.out (HL.out.chg (S := Non) (C5.out.trans (by simp)) (fun h => h)) (by omega)) ?_; rintro e w6 ⟨rfl, hc6⟩; have h6 : Chg Non W5 w6   := (by simpa using hc6); clear hc6))
        | (go_at_call 28; refine Calls.mono (refKeyed_of H2.out (HR.out.chg (S := Non) (C5.out.trans (by simp [h6])) (fun h => h)) (by omega) (HL.out.chg (S := Non) (C5.out.trans (by simp [h6])) (fun h => h)) (by omega)) ?_; rintro e w7 ⟨rfl, hc7⟩; have h7 : Chg Non W5 w7 := h6.trans (by simpa using hc7); clear hc7 h6)
        | (go_at_call 12; refine Calls.mono (Text_any S1 L1.out _) ?_; rintro e w8 ⟨rfl, hc8⟩; have h8 : Chg Non W5 w8 := h7.trans (by simpa using hc8); clear hc8 h7)
        | (go_at_call 13; refine Calls.mono (refText_any S1 L1.out _) ?_; rintro e w9 ⟨rfl, hc9⟩; have h9 : Chg Non W5 w9 := h8.trans (by simpa using hc9); clear hc9 h8; clear hR1 hV1 hR2 hV2 heq1 heq2)
        | (go_at_call 29; (with_reducible refine Calls.mono (LeftBytes_any (g := g1) (n := n) (cap := cap1) (bs := ls) (B := w.heap.size) (b2 := b) (a2 := ao) (c2 := cap) ?_ ?_) ?_); (exact twin_keep T15.out (by simp [h9])); (exact HL.out.chg (S := Non) (C5.out.trans (by simp [h9])) (fun h => h)); rintro e wA ⟨rfl, qA, hwA⟩; have hA : Chg Non W5 wA := (by rw [hwA]; simp [h9]); clear hwA h9)
        | (go_at_call 29; (with_reducible refine Calls.mono (LeftBytes_any (g := g2) (n := kn) (cap := cap2) (bs := ks) (B := w1.heap.size) (b2 := kb) (a2 := ka) (c2 := kc) ?_ ?_) ?_); (exact twin_keep T25.out (by simp [hA])); (exact HR.out.chg (S := Non) (C5.out.trans (by simp [hA])) (fun h => h)); rintro e wB ⟨rfl, qB, hwB⟩; have hB : Chg Non W5 wB := (by rw [hwB]; simp [hA]); clear hwB hA))
      all_goals go_wp2_with fail
      all_goals go_ret
      all_goals exact ⟨rfl, (C5.out.trans hB).belowN⟩
    · go_enter Try.func6, Try.ntmps6
      go_wp2_with fail
      go_ret
      exact ⟨rfl, (Chg.refl Non w).belowN⟩
  · go_enter Try.func6, Try.ntmps6
    go_wp2_with fail
    go_ret
    exact ⟨rfl, (Chg.refl Non w).belowN⟩
end Go.Proofs.Ytbmopcmhokpchaa
