/- SumsKeys, walked. -/
import Derived.Test.YtbmopcmhokpchaaSumsCalls
import Derived.Deep.RegionHeld3
import Derived.WalkLawsBesides
namespace Go.Proofs.Ytbmopcmhokpchaa
open Go.RowKit
set_option linter.unusedVariables false
set_option linter.unusedSimpArgs false
attribute [local go_sem ↓] Go.wp_at_zero Go.wp_at_succ
/-- A key with bytes 0 behind it, up to 64, is as it was. -/
theorem padKey_zeros {ks : List UInt8} {m : Nat} (h : ks.length + m ≤ 64) (c : UInt8) : padKey (ks ++ List.replicate m 0) c = padKey ks c := by
  unfold padKey
  rw [List.append_assoc, List.replicate_append_replicate, List.length_append, List.length_replicate]
  congr 3
  omega
theorem hmac_zeros {ks ls : List UInt8} {m : Nat} (h : ks.length + m ≤ 64) : hmac (ks ++ List.replicate m 0) ls = hmac ks ls := by
  unfold hmac
  rw [if_neg (by simp; omega), if_neg (by omega)]
  unfold hmac64
  rw [padKey_zeros h, padKey_zeros h]
theorem hmac_sha {ks ls : List UInt8} (h : 64 < ks.length) : hmac (sha ks) ls = hmac ks ls := by
  unfold hmac
  rw [if_pos h, if_neg (by rw [sha_length]; omega)]
attribute [local go_sem ↓] run_load_row_op run_store_row_op in
set_option maxRecDepth 40000 in
set_option maxHeartbeats 1000000 in
theorem SumsKeys_any {w : World} {kb : Nat} {ka : Option Addr} {kn kc : Nat} {ks : List UInt8} (hr : Rd w kb ka kn kc ks) {b : Nat} {ao : Option Addr} {n cap : Nat} {ls : List UInt8} (h : Rd w b ao n cap ls) {x : Int} (hx : (Lit.int .u8 x).wf = true) :
    Calls Try.prog 7 #[.slice ka kn kc, .slice ao n cap, .int .u8 x] w fun e w' => e = .returned (.bool true) ∧ Below w.heap.size w w' := by
  have hxb : 0 ≤ x ∧ x ≤ 255 := by
    simp [Lit.wf, IntKind.min, IntKind.max] at hx
    first | omega | (simp [IntKind.signed, IntKind.bits] at hx; omega)
  clear hx
  obtain ⟨i0, hi, hz0, hz1, hz2⟩ := info_parts Try.info_u8
  have Hi := Lib.hid hi; clear hi
  have Hz0 := Lib.hid hz0; clear hz0
  have Hz1 := Lib.hid hz1; clear hz1
  have Hz2 := Lib.hid hz2; clear hz2
  have HL := Lib.hid h; have HR := Lib.hid hr
  clear h hr
  by_cases h1 : kn ≤ 3000
  · by_cases h2 : n ≤ 3000
    · obtain ⟨S, hS⟩ : ∃ S, S = hmac ks ls := ⟨_, rfl⟩
      have HS := Lib.hid hS
      have L := Lib.hid (show S.length = 32 by rw [hS]; exact hmac_length _ _)
      clear hS
      by_cases h64 : 64 < kn
      · go_enter Try.func7, Try.ntmps7
        go_wp2_with fail
        refine Calls.mono (alive10_any _) ?_
        rintro e w1 ⟨rfl, hc1⟩
        have C1 := Lib.hid hc1; clear hc1
        go_wp2_with fail
        refine Calls.mono (Keyed_of HS.out (HR.out.chg C1.out (fun h => h)) (by omega) (HL.out.chg C1.out (fun h => h)) (by omega)) ?_
        rintro e w2 ⟨rfl, hc2⟩
        have C2 := Lib.hid (C1.out.trans hc2); clear hc2
        obtain ⟨W3, p3, q3, e3, c3, z3⟩ := sum_new w2 L.out
        rw [zero32_lit] at p3 q3
        have E3 := Lib.hid e3; have C3 := Lib.hid (C2.out.trans c3)
        clear e3 c3
        obtain ⟨S1, hS1⟩ : ∃ S1, S1 = sha ks := ⟨_, rfl⟩
        have H1 := Lib.hid hS1; have L1 := Lib.hid (show S1.length = 32 by rw [hS1]; exact sha_length _)
        have HM := Lib.hid (show S = hmac S1 ls by rw [hS1, hmac_sha (by have := HR.out.1; omega)]; exact HS.out)
        clear hS1
        go_wp2_with fail
        refine Calls.mono (Of_of H1.out (HR.out.chg C3.out (fun h => h)) (by omega)) ?_
        rintro e w4 ⟨rfl, hc4⟩
        have C4 := Lib.hid (C3.out.trans hc4)
        have E4 := Lib.hid ((hc4.block _ (Array.getElem?_eq_some_iff.1 E3.out).1 (fun h => h)).trans E3.out)
        clear hc4 p3 q3
        obtain ⟨W5, p5, q5, e5, c5, z5⟩ := sum_new w4 L1.out
        rw [zero32_lit] at p5 q5
        have C5 := Lib.hid (C4.out.trans c5)
        have e5' := (c5.block _ (Array.getElem?_eq_some_iff.1 E4.out).1 (fun h => h)).trans E4.out
        have K5 : Hid (∀ w', Chg Non W5 w' → w'.heap[w2.heap.size]? = some (.cells (S.map bv).toArray 22 (0, 0))) := Lib.hid (fun w' h => (h.block _ (Array.getElem?_eq_some_iff.1 e5').1 (fun h => h)).trans e5')
        have R5 := Lib.hid (Rd.of_block (n := 32) e5 L1.out (by unfold maxLen; omega))
        have hR : ∀ w', Chg Non W5 w' → IsRowAt Try.prog 22 w' (.pointer (some ⟨w2.heap.size, 0, none⟩)) := fun w' h => IsRowAt.mk (K5.out w' h) Try.underlying22 rfl (size_of Try.size_32 L.out)
        have hV : ∀ w', Chg Non W5 w' → rowAt w' (.pointer (some ⟨w2.heap.size, 0, none⟩)) = .agg (S.map bv).toArray := fun w' h => rowAt_mk (K5.out w' h)
        have heq := equal_self L.out
        clear e5 c5 e5'
        go_wp2_with fail
        go_region_with (go_at_call 26; refine Calls.mono (Keyed_of HM.out (Rd.chg R5.out (S := Non) (by simp) (fun h => h)) (by omega) (HL.out.chg (S := Non) (C5.out.trans (by simp)) (fun h => h)) (by omega)) ?_; rintro e w6 ⟨rfl, hc6⟩; have C6 := Lib.hid (show Chg Non W5 w6 by first | exact hc6 | simpa using hc6); clear hc6; have h6 : Chg Non W5 w6 := C6.out)
        all_goals go_wp2_with fail
        all_goals go_ret
        all_goals exact ⟨rfl, (C5.out.trans C6.out).belowN⟩
      · obtain ⟨X, rfl⟩ := Int.eq_ofNat_of_zero_le hxb.1
        obtain ⟨M, hM⟩ : ∃ M, M = X % (65 - kn) := ⟨_, rfl⟩
        have hMlt : M < 65 - kn := by rw [hM]; exact Nat.mod_lt _ (by omega)
        have hmod : Int.tmod (X : Int) (65 - (kn : Int)) = (M : Int) := by
          rw [hM, show (65 - (kn : Int)) = ((65 - kn : Nat) : Int) by omega]
          rfl
        have hmod2 : (X : Int) % (65 - (kn : Int)) = (M : Int) := by
          rw [hM, show (65 - (kn : Int)) = ((65 - kn : Nat) : Int) by omega, Int.natCast_emod]
        have HMOD := Lib.hid hmod; have HMOD2 := Lib.hid hmod2; have HML := Lib.hid hMlt
        have HS2 := Lib.hid (show S = hmac (ks ++ List.replicate M 0) ls by rw [hmac_zeros (by have := HR.out.1; omega)]; exact HS.out)
        clear hmod hmod2 hM
        go_enter Try.func7, Try.ntmps7
        go_wp2_with fail
        refine Calls.mono (alive10_any _) ?_
        rintro e w1 ⟨rfl, hc1⟩
        have C1 := Lib.hid hc1; clear hc1
        go_wp2_with fail
        refine Calls.mono (Keyed_of HS.out (HR.out.chg C1.out (fun h => h)) (by omega) (HL.out.chg C1.out (fun h => h)) (by omega)) ?_
        rintro e w2 ⟨rfl, hc2⟩
        have C2 := Lib.hid (C1.out.trans hc2); clear hc2
        obtain ⟨W3, p3, q3, e3, c3, z3⟩ := sum_new w2 L.out
        rw [zero32_lit] at p3 q3
        have C3 := Lib.hid (C2.out.trans c3)
        have hz : w.heap.size ≤ W3.drew.heap.size := C3.out.size
        obtain ⟨a4, k4, W4, run4, own4, chg4, hb4, _⟩ := run_append_Own (P := Try.prog) (w := W3.drew) (B := w.heap.size) 33 33 i0 (.int .u8 0) Try.underlying33 Hi.out Hz0.out Hz1.out rfl Hz2.out (ty := 33) (Own.nil W3.drew w.heap.size 5 1) (Rd.src (Rd.drewN (HR.out.chg C3.out (fun h => h)) 1) Try.underlying33) (by unfold maxLen; omega) (by omega) hz
        have hz4 : w.heap.size ≤ W4.heap.size := Nat.le_trans hz chg4.size
        rw [Nat.zero_add, List.nil_append] at own4
        rw [Nat.zero_add] at run4
        obtain ⟨a5, k5, W5, run5, own5, chg5⟩ := run_append_zeros (P := Try.prog) 33 3 33 Try.underlying33 Try.underlying3 Hi.out Hz0.out Hz1.out Hz2.out own4 .i64 M (by omega) hz4
        have e5 : W5.heap[w2.heap.size]? = some (.cells (S.map bv).toArray 22 (0, 0)) := by
          rw [chg5.block _ (by have := chg4.size; exact Nat.lt_of_lt_of_le z3 this) (fun h => by rcases hb4 with hb | hb <;> rw [hb] at h <;> simp [blk] at h; omega), chg4.block _ z3 (fun h => by simp [blk] at h)]
          exact e3
        have c5 : Chg Non w W5 := ((C3.out.drew).next chg4 (fun i hi h => by simp [blk] at h)).next chg5 (fun i hi h => by have := (own4.lt i h).1; omega)
        have own5' : Own W5 w.heap.size 5 1 a5 (kn + M) k5 ((ks ++ List.replicate M 0).map bv) := by
          rw [List.map_append, List.map_replicate]; exact own5
        obtain ⟨bq, _, hrd⟩ := Rd.of_Own own5'
        have R5 := Lib.hid hrd; have C5 := Lib.hid c5
        have K5 : Hid (∀ w', Chg Non W5 w' → w'.heap[w2.heap.size]? = some (.cells (S.map bv).toArray 22 (0, 0))) := Lib.hid (fun w' h => (h.block _ (Array.getElem?_eq_some_iff.1 e5).1 (fun h => h)).trans e5)
        have hR : ∀ w', Chg Non W5 w' → IsRowAt Try.prog 22 w' (.pointer (some ⟨w2.heap.size, 0, none⟩)) := fun w' h => IsRowAt.mk (K5.out w' h) Try.underlying22 rfl (size_of Try.size_32 L.out)
        have hV : ∀ w', Chg Non W5 w' → rowAt w' (.pointer (some ⟨w2.heap.size, 0, none⟩)) = .agg (S.map bv).toArray := fun w' h => rowAt_mk (K5.out w' h)
        have heq := equal_self L.out
        have RUN4 := Lib.hid run4; have RUN5 := Lib.hid run5
        have x0 : IntKind.i64.wrap (X : Int) = (X : Int) := IntWalk.i64_in _ ⟨by omega, by omega⟩
        have x1 : IntKind.i64.wrap (65 - (kn : Int)) = 65 - (kn : Int) := IntWalk.i64_in _ ⟨by omega, by omega⟩
        have x2 : ¬ ((65 - (kn : Int)) = 0) := by omega
        have x5 : ¬ ((65 : Int) = (kn : Int)) := by omega
        have x6 : IntKind.i64.wrap (M : Int) = (M : Int) := IntWalk.i64_in _ ⟨by omega, by omega⟩
        have x3 := HMOD.out
        have x4 := HMOD2.out
        clear e3 c3 run4 own4 chg4 hb4 run5 own5 chg5 e5 c5 own5' hrd
        go_wp2_with fail
        go_region_held3 (fun _ => True) (trivial) (first | (refine step_append_run (by rfl) _ _ _ _ (by rfl) _ _ (by rfl) (by rfl) _ _ RUN4.out ?_) | (refine step_append_run (by rfl) _ _ _ _ (by rfl) _ _ (by rfl) (by rfl) _ _ RUN5.out ?_))
        all_goals go_wp2_with fail
        clear x0 x1 x2 x3 x4 x5 x6
        go_region_with (go_at_call 26; refine Calls.mono (Keyed_of HS2.out (Rd.chg R5.out (S := Non) (by simp) (fun h => h)) (by omega) (HL.out.chg (S := Non) (C5.out.trans (by simp)) (fun h => h)) (by omega)) ?_; rintro e w6 ⟨rfl, hc6⟩; have C6 := Lib.hid (show Chg Non W5 w6 by first | exact hc6 | simpa using hc6); clear hc6; have h6 : Chg Non W5 w6 := C6.out)
        all_goals go_wp2_with fail
        all_goals go_ret
        all_goals exact ⟨rfl, (C5.out.trans C6.out).belowN⟩
    · go_enter Try.func7, Try.ntmps7
      go_wp2_with fail
      refine Calls.mono (alive10_any _) ?_
      rintro e w1 ⟨rfl, hc1⟩
      have C1 := Lib.hid hc1; clear hc1
      go_wp2_with fail
      refine Calls.mono (alive10_any _) ?_
      rintro e w2 ⟨rfl, hc2⟩
      have C2 := Lib.hid (C1.out.trans hc2); clear hc2
      go_wp2_with fail
      go_ret
      exact ⟨rfl, C2.out.belowN⟩
  · go_enter Try.func7, Try.ntmps7
    go_wp2_with fail
    refine Calls.mono (alive10_any _) ?_
    rintro e w1 ⟨rfl, hc1⟩
    have C1 := Lib.hid hc1; clear hc1
    go_wp2_with fail
    refine Calls.mono (alive10_any _) ?_
    rintro e w2 ⟨rfl, hc2⟩
    have C2 := Lib.hid (C1.out.trans hc2); clear hc2
    go_wp2_with fail
    go_ret
    exact ⟨rfl, C2.out.belowN⟩
end Go.Proofs.Ytbmopcmhokpchaa
