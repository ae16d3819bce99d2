/- The document's sum with a key, walked. -/
import Derived.Test.YtbmopcmhokpchaaDoorShaRefOf
import Derived.Test.YtbmopcmhokpchaaDoorSumsCalls
namespace Go.Proofs.YtbmopcmhokpchaaDoor
open Go.RowKit
set_option linter.unusedVariables false
set_option linter.unusedSimpArgs false
attribute [local go_sem ↓] Go.wp_at_zero Go.wp_at_succ
/-- Two lists of bytes that were made behind the world w. -/
structure TwoA (w wr : World) (a1 : Option Addr) (m1 c1 : Nat) (xs : List UInt8) (a2 : Option Addr) (m2 c2 : Nat) (ys : List UInt8) : Prop where
  own1 : Own wr w.heap.size 5 1 a1 m1 c1 (xs.map bv)
  own2 : Own wr w.heap.size 5 1 a2 m2 c2 (ys.map bv)
  ne : ∀ i, some i = blk a1 → some i ≠ blk a2
  chg : Chg Non w wr
theorem TwoA.start (w : World) : TwoA w w none 0 0 [] none 0 0 [] := ⟨Own.nil _ _ _ _, Own.nil _ _ _ _, fun i h => by simp [blk] at h, Chg.refl _ _⟩
theorem TwoA.alloc {w wr : World} {a1 a2 : Option Addr} {m1 c1 m2 c2 : Nat} {xs ys : List UInt8} (h : TwoA w wr a1 m1 c1 xs a2 m2 c2 ys) (o : Obj) : TwoA w (wr.alloc o) a1 m1 c1 xs a2 m2 c2 ys :=
  ⟨h.own1.alloc o, h.own2.alloc o, h.ne, h.chg.alloc o⟩
theorem TwoA.swap {w wr : World} {a1 a2 : Option Addr} {m1 c1 m2 c2 : Nat} {xs ys : List UInt8} (h : TwoA w wr a1 m1 c1 xs a2 m2 c2 ys) : TwoA w wr a2 m2 c2 ys a1 m1 c1 xs :=
  ⟨h.own2, h.own1, fun i h1 h2 => h.ne i h2 h1, h.chg⟩
theorem TwoA.le {w wr : World} {a1 a2 : Option Addr} {m1 c1 m2 c2 : Nat} {xs ys : List UInt8} (h : TwoA w wr a1 m1 c1 xs a2 m2 c2 ys) : w.heap.size ≤ wr.heap.size := h.chg.size
theorem TwoA.next {w wr w1 : World} {a1 a2 a' : Option Addr} {m1 c1 m2 c2 m' c' : Nat} {xs ys zs : List UInt8} (h : TwoA w wr a1 m1 c1 xs a2 m2 c2 ys) {T : Nat → Prop} (hc : Chg T wr w1) (ht : ∀ i, T i → some i = blk a1) (hb : blk a' = blk a1 ∨ blk a' = some wr.heap.size)
    {news : List Value} (hy : news = zs.map bv) (ho : Own w1 w.heap.size 5 1 a' m' c' (xs.map bv ++ news)) : TwoA w w1 a' m' c' (xs ++ zs) a2 m2 c2 ys := by
  subst hy
  refine ⟨by rw [List.map_append]; exact ho, h.own2.chg hc (fun i hi hh => h.ne i (ht _ hh) hi), fun i hi => ?_, h.chg.next hc (fun i hi hh => ?_)⟩
  · rcases hb with hb | hb
    · exact h.ne i (hi.trans hb)
    · intro h2
      have := (h.own2.lt i h2).2
      have := Option.some.inj (hi.trans hb)
      omega
  · have := (h.own1.lt _ (ht _ hh)).1; omega
theorem TwoA.keep {w wr w1 : World} {a1 a2 : Option Addr} {m1 c1 m2 c2 : Nat} {xs ys : List UInt8} (h : TwoA w wr a1 m1 c1 xs a2 m2 c2 ys) (hc : Chg Non wr w1) : TwoA w w1 a1 m1 c1 xs a2 m2 c2 ys :=
  ⟨h.own1.chg hc (fun _ _ h => h), h.own2.chg hc (fun _ _ h => h), h.ne, h.chg.trans hc⟩
theorem padKey_take {ks : List UInt8} {c : UInt8} {k : Nat} (hk : k < 64) (hl : ks.length ≤ 64) : (padKey ks c).take (k + 1) = (padKey ks c).take k ++ [ks.getD k 0 ^^^ c] := by
  rw [List.take_add_one]
  congr 1
  unfold padKey
  rw [List.getElem?_map]
  by_cases h : k < ks.length
  · rw [List.getElem?_append_left h]
    simp [List.getD, h]
  · rw [List.getElem?_append_right (by omega), List.getElem?_replicate, if_pos (by omega)]
    simp [List.getD, h]
theorem refOf_of {S : List UInt8} {w : World} {b : Nat} {ao : Option Addr} {n cap : Nat} {bs : List UInt8} (hS : S = sha bs) (h : Rd w b ao n cap bs) (hn : n ≤ 1000000) :
    Calls Tryd.prog 23 #[.slice ao n cap] w fun e w' => e = .returned (.agg (S.map bv).toArray) ∧ Chg Non w w' := by
  subst hS; exact refOf_any h hn
set_option maxRecDepth 40000 in
set_option maxHeartbeats 2000000 in
attribute [local go_sem ↓] run_load_row_op run_store_row_op in
theorem refKeyed_any {w : World} {kb : Nat} {ka : Option Addr} {kn kc : Nat} {ks : List UInt8} (hr : Rd w kb ka kn kc ks) (hkn : kn ≤ 900000) {b : Nat} {ao : Option Addr} {n cap : Nat} {ls : List UInt8} (h : Rd w b ao n cap ls) (hn : n ≤ 900000) :
    Calls Tryd.prog 17 #[.slice ka kn kc, .slice ao n cap] w fun e w' => e = .returned (.agg ((hmac ks ls).map bv).toArray) ∧ Chg Non w w' := by
  obtain ⟨i0, hi, hz0, hz1, hz2⟩ := info_parts Tryd.info_u8
  have Hi := Lib.hid hi; clear hi
  have Hz0 := Lib.hid hz0; clear hz0
  have Hz1 := Lib.hid hz1; clear hz1
  have Hz2 := Lib.hid hz2; clear hz2
  have HL := Lib.hid h; have HR := Lib.hid hr
  clear h hr
  by_cases h64 : kn ≤ 64
  · have HM : Hid (hmac ks ls = hmac64 ks ls) := Lib.hid (by rw [hmac, if_neg (by have := HR.out.1; omega)])
    obtain ⟨ks', rfl⟩ : ∃ ks', ks' = ks := ⟨_, rfl⟩
    go_enter Tryd.func17, Tryd.ntmps17
    go_wp2_with fail
    rw [← zero32_lit]
    obtain ⟨W0, hW0⟩ : ∃ W0, W0 = w.alloc (.cells (zeroV 32) 33) := ⟨_, rfl⟩
    rw [← hW0]
    have C0 : Hid (Chg Non w W0) := Lib.hid (by rw [hW0]; exact (Chg.refl _ _).alloc _)
    have R0 : Hid (W0.heap[w.heap.size]? = some (.cells (zeroV 32) 33 (0, 0))) := Lib.hid (by rw [hW0]; exact heap_alloc_new _ _)
    have RK := Lib.hid (HR.out.chg C0.out (fun h => h))
    clear hW0
    obtain ⟨S1, hS1⟩ : ∃ S1, S1 = sha (padKey ks' 0x36 ++ ls) := ⟨_, rfl⟩
    obtain ⟨S2, hS2⟩ : ∃ S2, S2 = sha (padKey ks' 0x5c ++ S1) := ⟨_, rfl⟩
    have HF : Hid (S2 = hmac64 ks' ls) := Lib.hid (by rw [hS2, hS1]; rfl)
    have H1 := Lib.hid hS1; have H2 := Lib.hid hS2; have L1 := Lib.hid (show S1.length = 32 by rw [hS1]; exact sha_length _); have L2 := Lib.hid (show S2.length = 32 by rw [hS2]; exact sha_length _)
    have KL := Lib.hid RK.out.1
    have NC := RK.out.2.1
    clear hS1 hS2
    go_loopw [8, 6, 7] (fun i v1 v2 wr => ∃ (k c1 : Nat) (a1 : Option Addr) (c2 : Nat) (a2 : Option Addr), k ≤ 64 ∧ i = .int .i64 k ∧ v1 = .slice a1 k c1 ∧ v2 = .slice a2 k c2 ∧ TwoA W0 wr a1 k c1 ((padKey ks' 0x36).take k) a2 k c2 ((padKey ks' 0x5c).take k)) (fun i _ _ _ => 64 - (intOf i).toNat)
    case atStart => exact ⟨0, 0, none, 0, none, by omega, rfl, rfl, rfl, by rw [List.take_zero, List.take_zero]; exact TwoA.start W0⟩
    case round =>
      obtain ⟨k, c1, a1, c2, a2, hk, rfl, rfl, rfl, ha⟩ := hrel
      have A := Lib.hid ha
      clear ha
      by_cases hlt : k < 64
      · obtain ⟨x, hx⟩ : ∃ x, x = ks'.getD k 0 := ⟨_, rfl⟩
        have HX := Lib.hid hx
        by_cases hkn : k < kn
        · skip
          obtain ⟨off, ho, hc⟩ := (RK.out.chg A.out.chg (fun h => h)).2.2.2.2 (by omega)
          have y1 := hc k hkn
          rw [← hx] at y1
          unfold bv at y1
          cases ho
          try rw [Nat.zero_add] at y1
          clear hx hc
          go_wp2_with (first
            | (at_builtin; refine wpList_append_Own rfl _ _ 29 29 rfl W0.heap.size 5 1 1 i0 (.int .u8 0) Tryd.underlying29 Hi.out Hz0.out Hz1.out rfl Hz2.out a1 k c1 _ (by go_num) (A.out.alloc _).own1 _ 1 _ rfl (Src.cells (w := wr.alloc (.cells #[.int .u8 (bits .xor .u8 (x.toNat : Int) 54)] 5)) Tryd.underlying29 (heap_alloc_new wr _) 1 1 1 (by rfl) (by simp [Value.oneCell'])) (by unfold maxLen; omega) (by omega) (A.out.alloc _).le ?_; intro a3 c3 w3 hown2 hchg2 hb2 _; have A3 := Lib.hid ((A.out.alloc _).next (zs := [x ^^^ 0x36]) hchg2 (fun _ h => h.1) hb2 (congrArg (fun y => [y]) (u8_xor_bv x 0x36)) hown2).swap; clear hown2 hchg2 hb2)
            | (at_builtin; refine wpList_append_Own rfl _ _ 29 29 rfl W0.heap.size 5 1 1 i0 (.int .u8 0) Tryd.underlying29 Hi.out Hz0.out Hz1.out rfl Hz2.out a2 k c2 _ (by go_num) (A3.out.alloc _).own1 _ 1 _ rfl (Src.cells (w := w3.alloc (.cells #[.int .u8 (bits .xor .u8 (x.toNat : Int) 92)] 5)) Tryd.underlying29 (heap_alloc_new w3 _) 1 1 1 (by rfl) (by simp [Value.oneCell'])) (by unfold maxLen; omega) (by omega) (A3.out.alloc _).le ?_; intro a4 c4 w4 hown2 hchg2 hb2 _; have A4 := Lib.hid ((A3.out.alloc _).next (zs := [x ^^^ 0x5c]) hchg2 (fun _ h => h.1) hb2 (congrArg (fun y => [y]) (u8_xor_bv x 0x5c)) hown2).swap; clear hown2 hchg2 hb2))
          go_roundw
          case rel =>
            refine ⟨k + 1, c3, a3, c4, a4, by omega, by go_num, rfl, rfl, ?_⟩
            rw [padKey_take hlt (by have := KL.out; omega), padKey_take hlt (by have := KL.out; omega), ← HX.out]
            exact A4.out
          case measure => simp [intOf]; omega
        · skip
          have hx0 : x = 0 := by
            rw [hx]
            have := KL.out
            simp [List.getD, show ks'.length ≤ k by omega]
          have HX0 := Lib.hid hx0
          clear hx hx0
          go_wp2_with (first
            | (at_builtin; refine wpList_append_Own rfl _ _ 29 29 rfl W0.heap.size 5 1 1 i0 (.int .u8 0) Tryd.underlying29 Hi.out Hz0.out Hz1.out rfl Hz2.out a1 k c1 _ (by go_num) (A.out.alloc _).own1 _ 1 _ rfl (Src.cells (w := wr.alloc (.cells #[.int .u8 (bits .xor .u8 0 54)] 5)) Tryd.underlying29 (heap_alloc_new wr _) 1 1 1 (by rfl) (by simp [Value.oneCell'])) (by unfold maxLen; omega) (by omega) (A.out.alloc _).le ?_; intro a3 c3 w3 hown2 hchg2 hb2 _; have A3 := Lib.hid ((A.out.alloc _).next (zs := [x ^^^ 0x36]) hchg2 (fun _ h => h.1) hb2 (by rw [HX0.out]; exact congrArg (fun y => [y]) (u8_xor_bv 0 0x36)) hown2).swap; clear hown2 hchg2 hb2)
            | (at_builtin; refine wpList_append_Own rfl _ _ 29 29 rfl W0.heap.size 5 1 1 i0 (.int .u8 0) Tryd.underlying29 Hi.out Hz0.out Hz1.out rfl Hz2.out a2 k c2 _ (by go_num) (A3.out.alloc _).own1 _ 1 _ rfl (Src.cells (w := w3.alloc (.cells #[.int .u8 (bits .xor .u8 0 92)] 5)) Tryd.underlying29 (heap_alloc_new w3 _) 1 1 1 (by rfl) (by simp [Value.oneCell'])) (by unfold maxLen; omega) (by omega) (A3.out.alloc _).le ?_; intro a4 c4 w4 hown2 hchg2 hb2 _; have A4 := Lib.hid ((A3.out.alloc _).next (zs := [x ^^^ 0x5c]) hchg2 (fun _ h => h.1) hb2 (by rw [HX0.out]; exact congrArg (fun y => [y]) (u8_xor_bv 0 0x5c)) hown2).swap; clear hown2 hchg2 hb2))
          go_roundw
          case rel =>
            refine ⟨k + 1, c3, a3, c4, a4, by omega, by go_num, rfl, rfl, ?_⟩
            rw [padKey_take hlt (by have := KL.out; omega), padKey_take hlt (by have := KL.out; omega), ← HX.out]
            exact A4.out
          case measure => simp [intOf]; omega
      · skip
        obtain rfl : k = 64 := by omega
        rw [show ((64 : Nat) : Int) = 64 from rfl]
        rw [List.take_of_length_le (by rw [padKey_length (by have := KL.out; omega)]; omega), List.take_of_length_le (by rw [padKey_length (by have := KL.out; omega)]; omega)] at A
        go_wp2_with (first
          | (at_builtin; refine wpList_append_Own rfl _ _ 29 29 rfl W0.heap.size 5 1 1 i0 (.int .u8 0) Tryd.underlying29 Hi.out Hz0.out Hz1.out rfl Hz2.out a1 64 c1 _ (by go_num) A.out.own1 _ n _ rfl (Rd.src (HL.out.chg (C0.out.trans A.out.chg) (fun h => h)) Tryd.underlying29) (by unfold maxLen; omega) (by omega) A.out.le ?_; intro a3 c3 w3 hown2 hchg2 hb2 _; have A3 := Lib.hid (A.out.next (zs := ls) hchg2 (fun _ h => h.1) hb2 rfl hown2); obtain ⟨b3, _, hr3⟩ := Rd.of_Own A3.out.own1; have R3 := Lib.hid hr3; clear hown2 hchg2 hb2 hr3)
          | (go_at_call 23; (refine Calls.mono (refOf_of H1.out R3.out (by omega)) ?_; rintro e w4 ⟨rfl, hc4⟩; have C4 := Lib.hid hc4; obtain ⟨W5, p5, q5, e5, c5, z5⟩ := sum_new w4 L1.out; rw [zero32_lit] at p5 q5; have E5 := Lib.hid e5; have A5 := Lib.hid (A3.out.keep (hc4.trans c5)).swap; clear e5 c5 hc4 C4))
          | (at_builtin; refine wpList_append_Own rfl _ _ 29 29 rfl W0.heap.size 5 1 1 i0 (.int .u8 0) Tryd.underlying29 Hi.out Hz0.out Hz1.out rfl Hz2.out a2 64 c2 _ (by go_num) A5.out.own1 _ 32 _ rfl (Rd.src (Rd.of_block E5.out L1.out (by unfold maxLen; omega)) Tryd.underlying29) (by unfold maxLen; omega) (by omega) A5.out.le ?_; intro a6 c6 w6 hown2 hchg2 hb2 _; have A6 := Lib.hid (A5.out.next (zs := S1) hchg2 (fun _ h => h.1) hb2 rfl hown2); obtain ⟨b6, _, hr6⟩ := Rd.of_Own A6.out.own1; have R6 := Lib.hid hr6; clear hown2 hchg2 hb2 hr6)
          | (go_at_call 23; (refine Calls.mono (refOf_of H2.out R6.out (by omega)) ?_; rintro e w7 ⟨rfl, hc7⟩; have A7 := Lib.hid (A6.out.keep hc7); obtain ⟨W8, p8, q8, e8, c8⟩ := sum_put (old := List.replicate 32 0) ((A7.out.chg.block _ (Array.getElem?_eq_some_iff.1 R0.out).1 (fun h => h)).trans R0.out) (by simp) L2.out (C0.out.trans A7.out.chg) (Nat.le_refl _); have E8 := Lib.hid e8; have C8 := Lib.hid c8; clear e8 c8 hc7)))
        refine bodyPost_ret (v := .agg (S2.map bv).toArray) (results_cell_row (fn := Tryd.f17) (p := 4) (ty := 33) Tryd.results17 _ _ w.heap.size 33 _ (0, 0) (.array 32 5) (by rfl) E8.out Tryd.underlying33 rfl (size_of Tryd.size_32 L2.out)) rfl ⟨by rw [HM.out, HF.out], C8.out⟩
  · have HM : Hid (hmac ks ls = hmac64 (sha ks) ls) := Lib.hid (by rw [hmac, if_pos (by have := HR.out.1; omega)])
    have U0 : Hid (Chg Non w (w.alloc (.cells (zeroV 32) 33))) := Lib.hid ((Chg.refl _ _).alloc _)
    have V0 : Hid (∀ W, W = w.alloc (.cells (zeroV 32) 33) → W.heap[w.heap.size]? = some (.cells (zeroV 32) 33 (0, 0))) := Lib.hid (by rintro _ rfl; exact heap_alloc_new _ _)
    rw [zero32_lit] at U0
    go_enter Tryd.func17, Tryd.ntmps17
    obtain ⟨ks', hks⟩ : ∃ ks', ks' = sha ks := ⟨_, rfl⟩
    have KS := Lib.hid hks
    have KL := Lib.hid (show ks'.length = 32 by rw [hks]; exact sha_length _)
    rw [← hks] at HM
    clear hks
    go_wp2_with (go_at_call 23; (refine Calls.mono (refOf_of KS.out (HR.out.chg U0.out (fun h => h)) (by omega)) ?_; rintro e w1 ⟨rfl, hc1⟩; obtain ⟨W3, p3, q3, e3, c3, z3⟩ := sum_new w1 KL.out; rw [zero32_lit] at p3 q3; have RK := Lib.hid (Rd.of_block (n := 32) e3 KL.out (by unfold maxLen; omega)); have R0 := Lib.hid (((hc1.trans c3).block w.heap.size (by simp) (fun h => h)).trans (V0.out _ (by rw [zero32_lit]))); have C0 := Lib.hid (U0.out.trans (hc1.trans c3)); clear hc1 e3 c3))
    obtain ⟨W0, hW0⟩ : ∃ W0, W0 = W3 := ⟨_, rfl⟩
    rw [← hW0] at RK R0 C0 ⊢
    clear hW0
    clear KL
    obtain ⟨S1, hS1⟩ : ∃ S1, S1 = sha (padKey ks' 0x36 ++ ls) := ⟨_, rfl⟩
    obtain ⟨S2, hS2⟩ : ∃ S2, S2 = sha (padKey ks' 0x5c ++ S1) := ⟨_, rfl⟩
    have HF : Hid (S2 = hmac64 ks' ls) := Lib.hid (by rw [hS2, hS1]; rfl)
    have H1 := Lib.hid hS1; have H2 := Lib.hid hS2; have L1 := Lib.hid (show S1.length = 32 by rw [hS1]; exact sha_length _); have L2 := Lib.hid (show S2.length = 32 by rw [hS2]; exact sha_length _)
    have KL := Lib.hid RK.out.1
    have NC := RK.out.2.1
    clear hS1 hS2
    go_loopw [8, 6, 7] (fun i v1 v2 wr => ∃ (k c1 : Nat) (a1 : Option Addr) (c2 : Nat) (a2 : Option Addr), k ≤ 64 ∧ i = .int .i64 k ∧ v1 = .slice a1 k c1 ∧ v2 = .slice a2 k c2 ∧ TwoA W0 wr a1 k c1 ((padKey ks' 0x36).take k) a2 k c2 ((padKey ks' 0x5c).take k)) (fun i _ _ _ => 64 - (intOf i).toNat)
    case atStart => exact ⟨0, 0, none, 0, none, by omega, rfl, rfl, rfl, by rw [List.take_zero, List.take_zero]; exact TwoA.start W0⟩
    case round =>
      obtain ⟨k, c1, a1, c2, a2, hk, rfl, rfl, rfl, ha⟩ := hrel
      have A := Lib.hid ha
      clear ha
      by_cases hlt : k < 64
      · obtain ⟨x, hx⟩ : ∃ x, x = ks'.getD k 0 := ⟨_, rfl⟩
        have HX := Lib.hid hx
        by_cases hkn : k < 32
        · skip
          obtain ⟨off, ho, hc⟩ := (RK.out.chg A.out.chg (fun h => h)).2.2.2.2 (by omega)
          have y1 := hc k hkn
          rw [← hx] at y1
          unfold bv at y1
          cases ho
          try rw [Nat.zero_add] at y1
          clear hx hc
          go_wp2_with (first
            | (at_builtin; refine wpList_append_Own rfl _ _ 29 29 rfl W0.heap.size 5 1 1 i0 (.int .u8 0) Tryd.underlying29 Hi.out Hz0.out Hz1.out rfl Hz2.out a1 k c1 _ (by go_num) (A.out.alloc _).own1 _ 1 _ rfl (Src.cells (w := wr.alloc (.cells #[.int .u8 (bits .xor .u8 (x.toNat : Int) 54)] 5)) Tryd.underlying29 (heap_alloc_new wr _) 1 1 1 (by rfl) (by simp [Value.oneCell'])) (by unfold maxLen; omega) (by omega) (A.out.alloc _).le ?_; intro a3 c3 w3 hown2 hchg2 hb2 _; have A3 := Lib.hid ((A.out.alloc _).next (zs := [x ^^^ 0x36]) hchg2 (fun _ h => h.1) hb2 (congrArg (fun y => [y]) (u8_xor_bv x 0x36)) hown2).swap; clear hown2 hchg2 hb2)
            | (at_builtin; refine wpList_append_Own rfl _ _ 29 29 rfl W0.heap.size 5 1 1 i0 (.int .u8 0) Tryd.underlying29 Hi.out Hz0.out Hz1.out rfl Hz2.out a2 k c2 _ (by go_num) (A3.out.alloc _).own1 _ 1 _ rfl (Src.cells (w := w3.alloc (.cells #[.int .u8 (bits .xor .u8 (x.toNat : Int) 92)] 5)) Tryd.underlying29 (heap_alloc_new w3 _) 1 1 1 (by rfl) (by simp [Value.oneCell'])) (by unfold maxLen; omega) (by omega) (A3.out.alloc _).le ?_; intro a4 c4 w4 hown2 hchg2 hb2 _; have A4 := Lib.hid ((A3.out.alloc _).next (zs := [x ^^^ 0x5c]) hchg2 (fun _ h => h.1) hb2 (congrArg (fun y => [y]) (u8_xor_bv x 0x5c)) hown2).swap; clear hown2 hchg2 hb2))
          go_roundw
          case rel =>
            refine ⟨k + 1, c3, a3, c4, a4, by omega, by go_num, rfl, rfl, ?_⟩
            rw [padKey_take hlt (by have := KL.out; omega), padKey_take hlt (by have := KL.out; omega), ← HX.out]
            exact A4.out
          case measure => simp [intOf]; omega
        · skip
          have hx0 : x = 0 := by
            rw [hx]
            have := KL.out
            simp [List.getD, show ks'.length ≤ k by omega]
          have HX0 := Lib.hid hx0
          clear hx hx0
          go_wp2_with (first
            | (at_builtin; refine wpList_append_Own rfl _ _ 29 29 rfl W0.heap.size 5 1 1 i0 (.int .u8 0) Tryd.underlying29 Hi.out Hz0.out Hz1.out rfl Hz2.out a1 k c1 _ (by go_num) (A.out.alloc _).own1 _ 1 _ rfl (Src.cells (w := wr.alloc (.cells #[.int .u8 (bits .xor .u8 0 54)] 5)) Tryd.underlying29 (heap_alloc_new wr _) 1 1 1 (by rfl) (by simp [Value.oneCell'])) (by unfold maxLen; omega) (by omega) (A.out.alloc _).le ?_; intro a3 c3 w3 hown2 hchg2 hb2 _; have A3 := Lib.hid ((A.out.alloc _).next (zs := [x ^^^ 0x36]) hchg2 (fun _ h => h.1) hb2 (by rw [HX0.out]; exact congrArg (fun y => [y]) (u8_xor_bv 0 0x36)) hown2).swap; clear hown2 hchg2 hb2)
            | (at_builtin; refine wpList_append_Own rfl _ _ 29 29 rfl W0.heap.size 5 1 1 i0 (.int .u8 0) Tryd.underlying29 Hi.out Hz0.out Hz1.out rfl Hz2.out a2 k c2 _ (by go_num) (A3.out.alloc _).own1 _ 1 _ rfl (Src.cells (w := w3.alloc (.cells #[.int .u8 (bits .xor .u8 0 92)] 5)) Tryd.underlying29 (heap_alloc_new w3 _) 1 1 1 (by rfl) (by simp [Value.oneCell'])) (by unfold maxLen; omega) (by omega) (A3.out.alloc _).le ?_; intro a4 c4 w4 hown2 hchg2 hb2 _; have A4 := Lib.hid ((A3.out.alloc _).next (zs := [x ^^^ 0x5c]) hchg2 (fun _ h => h.1) hb2 (by rw [HX0.out]; exact congrArg (fun y => [y]) (u8_xor_bv 0 0x5c)) hown2).swap; clear hown2 hchg2 hb2))
          go_roundw
          case rel =>
            refine ⟨k + 1, c3, a3, c4, a4, by omega, by go_num, rfl, rfl, ?_⟩
            rw [padKey_take hlt (by have := KL.out; omega), padKey_take hlt (by have := KL.out; omega), ← HX.out]
            exact A4.out
          case measure => simp [intOf]; omega
      · skip
        obtain rfl : k = 64 := by omega
        rw [show ((64 : Nat) : Int) = 64 from rfl]
        rw [List.take_of_length_le (by rw [padKey_length (by have := KL.out; omega)]; omega), List.take_of_length_le (by rw [padKey_length (by have := KL.out; omega)]; omega)] at A
        go_wp2_with (first
          | (at_builtin; refine wpList_append_Own rfl _ _ 29 29 rfl W0.heap.size 5 1 1 i0 (.int .u8 0) Tryd.underlying29 Hi.out Hz0.out Hz1.out rfl Hz2.out a1 64 c1 _ (by go_num) A.out.own1 _ n _ rfl (Rd.src (HL.out.chg (C0.out.trans A.out.chg) (fun h => h)) Tryd.underlying29) (by unfold maxLen; omega) (by omega) A.out.le ?_; intro a3 c3 w3 hown2 hchg2 hb2 _; have A3 := Lib.hid (A.out.next (zs := ls) hchg2 (fun _ h => h.1) hb2 rfl hown2); obtain ⟨b3, _, hr3⟩ := Rd.of_Own A3.out.own1; have R3 := Lib.hid hr3; clear hown2 hchg2 hb2 hr3)
          | (go_at_call 23; (refine Calls.mono (refOf_of H1.out R3.out (by omega)) ?_; rintro e w4 ⟨rfl, hc4⟩; have C4 := Lib.hid hc4; obtain ⟨W5, p5, q5, e5, c5, z5⟩ := sum_new w4 L1.out; rw [zero32_lit] at p5 q5; have E5 := Lib.hid e5; have A5 := Lib.hid (A3.out.keep (hc4.trans c5)).swap; clear e5 c5 hc4 C4))
          | (at_builtin; refine wpList_append_Own rfl _ _ 29 29 rfl W0.heap.size 5 1 1 i0 (.int .u8 0) Tryd.underlying29 Hi.out Hz0.out Hz1.out rfl Hz2.out a2 64 c2 _ (by go_num) A5.out.own1 _ 32 _ rfl (Rd.src (Rd.of_block E5.out L1.out (by unfold maxLen; omega)) Tryd.underlying29) (by unfold maxLen; omega) (by omega) A5.out.le ?_; intro a6 c6 w6 hown2 hchg2 hb2 _; have A6 := Lib.hid (A5.out.next (zs := S1) hchg2 (fun _ h => h.1) hb2 rfl hown2); obtain ⟨b6, _, hr6⟩ := Rd.of_Own A6.out.own1; have R6 := Lib.hid hr6; clear hown2 hchg2 hb2 hr6)
          | (go_at_call 23; (refine Calls.mono (refOf_of H2.out R6.out (by omega)) ?_; rintro e w7 ⟨rfl, hc7⟩; have A7 := Lib.hid (A6.out.keep hc7); obtain ⟨W8, p8, q8, e8, c8⟩ := sum_put (old := List.replicate 32 0) ((A7.out.chg.block _ (Array.getElem?_eq_some_iff.1 R0.out).1 (fun h => h)).trans R0.out) (by simp) L2.out (C0.out.trans A7.out.chg) (Nat.le_refl _); have E8 := Lib.hid e8; have C8 := Lib.hid c8; clear e8 c8 hc7)))
        refine bodyPost_ret (v := .agg (S2.map bv).toArray) (results_cell_row (fn := Tryd.f17) (p := 4) (ty := 33) Tryd.results17 _ _ w.heap.size 33 _ (0, 0) (.array 32 5) (by rfl) E8.out Tryd.underlying33 rfl (size_of Tryd.size_32 L2.out)) rfl ⟨by rw [HM.out, HF.out], C8.out⟩
end Go.Proofs.YtbmopcmhokpchaaDoor
