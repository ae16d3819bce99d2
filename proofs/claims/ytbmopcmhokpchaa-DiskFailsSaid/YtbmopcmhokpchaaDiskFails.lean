/- DiskFails, walked. -/
import Derived.Test.YtbmopcmhokpchaaDiskJoins
import Derived.Test.YtbmopcmhokpchaaOpenActs
namespace Go.Proofs.Ytbmopcmhokpchaa
open Go.RowKit
set_option linter.unusedVariables false
attribute [local go_sem ↓] Go.wp_at_zero Go.wp_at_succ
def SomeBool (e : Ending) : Prop := ∃ b, e = .returned (.bool b)
set_option maxHeartbeats 400000 in
set_option maxRecDepth 20000 in
/-- Whether acts are too many: it only reads. -/
theorem great19_any {w : World} {ao : Option Addr} {len cap : Nat} (h : Acts w ao len cap) :
    Calls Try.prog 14 #[.slice ao len cap] w fun e w' => SomeBool e ∧ w = w' := by
  have le := h.1
  have hm := h.2.1
  unfold maxLen at hm
  have H := Lib.hid h.2.2; clear h
  go_enter Try.func14, Try.ntmps14
  go_wp2
  go_loop [4, 3] (fun i n => ∃ (k : Nat) (z : Int), k ≤ len ∧ i = .int .i64 k ∧ n = .int .i64 z) (fun i _ => len - (intOf i).toNat)
  case atStart => exact ⟨0, 0, by omega, rfl, rfl⟩
  case round =>
    obtain ⟨k, z, hk, rfl, rfl⟩ := hrel
    by_cases hlt : k < len
    · obtain ⟨b, off, rfl, hb, hA⟩ := H.out (by omega)
      obtain ⟨kd, z1, a, n, c, bb, bs, h0, _, _, h1, h2, _, hr, _⟩ := hA k hlt
      clear hA h0 h2
      have hr1 := hr.2.1
      have hr2 := hr.2.2.1
      unfold maxLen at hr2
      clear hr
      go_wp2
      go_round
      case rel => exact ⟨k + 1, _, by omega, by go_num, rfl⟩
      case measure => simp [intOf]; omega
    · go_wp2
      all_goals go_ret
      all_goals exact ⟨⟨_, rfl⟩, rfl⟩
theorem Cut_either {w : World} {B p : Nat} {ao : Option Addr} {cap size sure : Nat} {bs : List UInt8} (h : DiskAt w B p ao cap size sure bs) (z : Int) :
    Calls Try.prog 18 #[.pointer (some ⟨p, 0, none⟩), .int .i64 z] w fun e w' => ∃ (f : Int) (cap' sure' : Nat) (bs' : List UInt8), e = .returned (.int .i64 f) ∧ DiskAt w' B p ao cap' size sure' bs' ∧ Chg (fun k => k = p) w w' := by
  by_cases hz : 0 ≤ z ∧ z ≤ bs.length
  · obtain ⟨s, rfl⟩ := Int.eq_ofNat_of_zero_le hz.1
    refine Calls.mono (Cut_yes h (s := s) (by omega)) ?_
    rintro e w' ⟨rfl, h1, h2⟩
    exact ⟨0, s, s, _, rfl, h1, h2⟩
  · refine Calls.mono (Cut_no h (by omega)) ?_
    rintro e w' ⟨rfl, rfl⟩
    exact ⟨1, cap, sure, bs, rfl, h, Chg.refl _ _⟩
theorem SameBytes_pre {w : World} {b1 b2 : Nat} {a1 a2 : Option Addr} {n1 c1 n n2 c2 M : Nat} {bs : List UInt8} (h1 : Rd w b1 a1 n1 c1 (bs.take M)) (h2 : Rd w b2 a2 n c2 bs) (hM : n2 = M) (hn : n2 ≤ n) :
    Calls Try.prog 23 #[.slice a1 n1 c1, .slice a2 n2 c2] w fun e w' => e = .returned (.bool true) ∧ ∃ q, w' = w.drewN q := by
  subst hM
  exact SameBytes_yes h1 (h2.take hn)
theorem Rd.of_Own_at {w : World} {B g : Nat} {e : TypeId} {n cap : Nat} {bs : List UInt8} (h : Own w B e 1 (some ⟨g, 0, none⟩) n cap (bs.map bv)) : Rd w g (some ⟨g, 0, none⟩) n cap bs ∧ g < w.heap.size := by
  refine ⟨?_, (h.lt g rfl).2⟩
  obtain ⟨b, hb, hr⟩ := Rd.of_Own h
  by_cases hp : 0 < cap
  · have := hb hp
    simp [blk] at this
    subst this
    exact hr
  · have h2 := h.2.1
    obtain rfl : n = 0 := by omega
    have hn : bs = [] := List.eq_nil_of_length_eq_zero hr.1
    subst hn
    exact ⟨rfl, Nat.zero_le _, h.2.2.1, (fun h => by cases h), fun h => absurd h hp⟩
theorem SameBytes_chg {w : World} {b1 b2 : Nat} {a1 a2 : Option Addr} {n1 c1 n2 c2 : Nat} {bs : List UInt8} (h1 : Rd w b1 a1 n1 c1 bs) (h2 : Rd w b2 a2 n2 c2 bs) :
    Calls Try.prog 23 #[.slice a1 n1 c1, .slice a2 n2 c2] w fun e w' => e = .returned (.bool true) ∧ Chg Non w w' := by
  refine Calls.mono (SameBytes_yes h1 h2) ?_
  rintro e w' ⟨rfl, q, rfl⟩
  exact ⟨rfl, (Chg.refl _ _).drewN q⟩
theorem Append_lit_either {w : World} {B p : Nat} {ao : Option Addr} {cap size sure : Nat} {bs : List UInt8} (h : DiskAt w B p ao cap size sure bs) (cs : List UInt8) {C : Array Value} {fr : Nat × Nat} (hC : C = (cs.map bv).toArray) {n : Nat} (hl : cs.length = n) (hm : n ≤ maxLen) :
    Calls Try.prog 19 #[.pointer (some ⟨p, 0, none⟩), .slice (some ⟨w.heap.size, 0, none⟩) n n] (w.alloc (.cells C 5 fr)) fun e w' => ∃ (f : Int) (ao' : Option Addr) (cap' : Nat) (bs' : List UInt8), e = .returned (.int .i64 f) ∧ DiskAt w' B p ao' cap' size sure bs' ∧ Chg (fun k => k = p ∨ some k = blk ao) w w' := by
  subst hC
  have hd : DiskAt (w.alloc (.cells (cs.map bv).toArray 5 fr)) B p ao cap size sure bs := h.chg (S := Non) ((Chg.refl _ w).alloc _) (fun h => h) (fun _ _ h => h)
  refine Calls.mono (Append_either hd (Rd.of_block (heap_alloc_new w _) hl hm)) ?_
  rintro e w' ⟨f, rfl, ⟨_, rfl, ao', cap', h1, h2⟩ | ⟨_, rfl, h1, h2⟩⟩
  · exact ⟨0, ao', cap', _, rfl, h1, ((Chg.refl (fun k => k = p ∨ some k = blk ao) w).alloc _).trans h2⟩
  · exact ⟨7, ao, cap, _, rfl, h1, ((Chg.refl (fun k => k = p ∨ some k = blk ao) w).alloc _).trans (h2.mono fun _ _ h => h.elim)⟩
theorem Fail_zero {w : World} {B p : Nat} {ao : Option Addr} {cap size n : Nat} {bs : List UInt8} (h : DiskAt w B p ao cap size n bs) (hn : bs.length = n) {N : Int} (hN : N = 0) :
    Calls Try.prog 21 #[.pointer (some ⟨p, 0, none⟩), .int .i64 N] w fun e w' => ∃ p' g, e = .returned (.tuple #[.pointer (some ⟨p', 0, none⟩), .int .i64 0]) ∧
      DiskAt w' w.heap.size p' (some ⟨g, 0, none⟩) n size n bs ∧ Chg Non w w' := by
  refine Calls.mono (Fail_of (m := 0) h (by rw [hN]; rfl) (Nat.zero_le _)) ?_
  rintro e w' ⟨p', g, rfl, h1, h2⟩
  have e1 : min bs.length (n + 0) = n := by omega
  have e2 : bs.take (n + 0) = bs := List.take_of_length_le (by omega)
  rw [e1, e2] at h1
  exact ⟨p', g, rfl, h1, h2⟩
/-- A disk whose blocks lie below those of the one that is turned. -/
theorem DiskAt.lower {w w' : World} {B p B2 p2 : Nat} {ao a2 : Option Addr} {cap size sure c2 s2 r2 : Nat} {bs b2 : List UInt8} (h : DiskAt w B p ao cap size sure bs) (h2 : DiskAt w B2 p2 a2 c2 s2 r2 b2) (hp : p2 < B) (ha : ∀ k, some k = blk a2 → k < B)
    (hs : Chg (fun k => k = p ∨ some k = blk ao) w w') : DiskAt w' B2 p2 a2 c2 s2 r2 b2 :=
  h2.chg hs (fun hh => by
    have := h.base
    rcases hh with hh | hh
    · omega
    · have := (h.own.lt _ hh).1; omega) (fun k hk hh => by
    have := ha k hk
    have := h.base
    rcases hh with hh | hh
    · omega
    · have := (h.own.lt _ hh).1; omega)
theorem Rd.lower {w w' : World} {B p b n c : Nat} {ao a2 : Option Addr} {cap size sure : Nat} {bs b2 : List UInt8} (h : DiskAt w B p ao cap size sure bs) (h2 : Rd w b a2 n c b2) (hb : b < B)
    (hs : Chg (fun k => k = p ∨ some k = blk ao) w w') : Rd w' b a2 n c b2 :=
  h2.chg hs (fun hh => by
    have := h.base
    rcases hh with hh | hh
    · omega
    · have := (h.own.lt _ hh).1; omega)
theorem Rd.upper {w w' : World} {B p b n c U : Nat} {ao a2 : Option Addr} {cap size sure : Nat} {bs b2 : List UInt8} (h : DiskAt w B p ao cap size sure bs) (h2 : Rd w b a2 n c b2) (hp : p < U) (ha : ∀ k, some k = blk ao → k < U) (hb : U ≤ b)
    (hs : Chg (fun k => k = p ∨ some k = blk ao) w w') : Rd w' b a2 n c b2 :=
  h2.chg hs (fun hh => by
    rcases hh with hh | hh
    · omega
    · have := ha _ hh; omega)
theorem DiskAt.alt {w : World} {B p : Nat} {ao : Option Addr} {cap size sure : Nat} {bs : List UInt8} (h : DiskAt w B p ao cap size sure bs) : ∀ k, some k = blk ao → k < w.heap.size := fun k hk => (h.own.lt k hk).2
set_option maxHeartbeats 1000000 in
set_option maxRecDepth 20000 in
theorem DiskFails_any {w : World} {ao : Option Addr} {len cap : Nat} (h : Acts w ao len cap) {x : Int} (hx : (Lit.int .u16 x).wf = true) :
    Calls Try.prog 4 #[.slice ao len cap, .int .u16 x] w fun e w' => e = .returned (.bool true) ∧ Below w.heap.size w w' := by
  have hxb : 0 ≤ x ∧ x ≤ 65535 := by
    simp [Lit.wf, IntKind.min, IntKind.max] at hx
    first | omega | (simp [IntKind.signed, IntKind.bits] at hx; omega)
  clear hx
  obtain ⟨X, rfl⟩ := Int.eq_ofNat_of_zero_le hxb.1
  have le := h.1
  have hm := h.2.1
  unfold maxLen at hm
  have HA := Lib.hid h
  have H := Lib.hid h.2.2; clear h
  have kc := fun (w : World) (C : Array Value) (n c : Nat) => Lib.run_convert_bytes_const (P := Try.prog) w 33 5 C n c Try.underlying33 Try.underlying5
  go_enter Try.func4, Try.ntmps4
  go_wp2_with fail
  refine Calls.mono (great19_any HA.out) ?_
  rintro e w' ⟨⟨gb, rfl⟩, rfl⟩
  cases gb
  case true =>
    go_wp2_with (go_at_call 15; refine Calls.mono (lives19_any _) ?_; rintro e w1 ⟨rfl, hc1⟩)
    go_ret
    exact ⟨rfl, hc1.belowN⟩
  case false =>
    go_wp2_with fail
    refine Calls.mono (New_of (size := 100000) (by rfl) (by omega)) ?_
    rintro e w0 ⟨rfl, hd0, hc0⟩
    have D0 := Lib.hid hd0; clear hd0
    have C0 := Lib.hid hc0; clear hc0
    go_wp2_with fail
    go_loopw [7] (fun i wr => ∃ k cap sure : Nat, ∃ ao bs, k ≤ len ∧ i = .int .i64 k ∧ DiskAt wr w.heap.size w.heap.size ao cap 100000 sure bs ∧ Chg Non w wr) (fun i _ => len - (intOf i).toNat)
    case atStart => exact ⟨0, 0, 0, none, [], by omega, rfl, D0.out, C0.out⟩
    case round =>
      obtain ⟨k, dcap, sure, da, bs, hk, rfl, hd, hc⟩ := hrel
      have D := Lib.hid hd; clear hd
      have C := Lib.hid hc; clear hc
      by_cases hlt : k < len
      · obtain ⟨b, off, rfl, hb, hA⟩ := H.out (by omega)
        obtain ⟨kd, z, a, n, c, bb, bs1, h0, hk0, hk1, h1, h2, hz, hr, hbb⟩ := hA k hlt
        clear hA
        have g0 : wr.cell? ⟨b, off + k * 3, none⟩ = some (.int .u8 kd) := (C.out.cell (p := ⟨b, off + k * 3, none⟩) hb (fun h => h)).trans h0
        have g1 : wr.cell? ⟨b, off + k * 3 + 1, none⟩ = some (.slice a n c) := (C.out.cell (p := ⟨b, off + k * 3 + 1, none⟩) hb (fun h => h)).trans h1
        have g2 : wr.cell? ⟨b, off + k * 3 + 2, none⟩ = some (.int .i64 z) := (C.out.cell (p := ⟨b, off + k * 3 + 2, none⟩) hb (fun h => h)).trans h2
        have R := Lib.hid (hr.chg C.out (fun h => h)); clear hr hbb h0 h1 h2
        have hcase : kd % 5 = 2 ∨ kd % 5 = 3 ∨ (kd % 5 ≠ 2 ∧ kd % 5 ≠ 3) := by omega
        rcases hcase with hq | hq | hq
        · have q1 : (kd % 5 == 2) = true := by simp [hq]
          clear hq
          go_wp2_with fail
          refine Calls.mono (Sync_any D.out) ?_
          rintro e w2 ⟨rfl, hd2, hc2⟩
          have hc3 := D.out.next (Nat.le_refl _) C.out hc2.one
          clear hc2
          go_wp2_with fail
          go_roundw
          case rel => exact ⟨k + 1, _, _, _, _, by omega, by go_num, hd2, hc3⟩
          case measure => simp [intOf]; omega
        · have q1 : (kd % 5 == 2) = false := by simp [hq]
          have q2 : (kd % 5 == 3) = true := by simp [hq]
          clear hq
          go_wp2_with fail
          refine Calls.mono (Cut_either D.out z) ?_
          rintro e w2 ⟨f, cap', sure', bs', rfl, hd2, hc2⟩
          have hc3 := D.out.next (Nat.le_refl _) C.out hc2.one
          clear hc2
          go_wp2_with fail
          go_roundw
          case rel => exact ⟨k + 1, _, _, _, _, by omega, by go_num, hd2, hc3⟩
          case measure => simp [intOf]; omega
        · have q1 : (kd % 5 == 2) = false := by simp [hq]
          have q2 : (kd % 5 == 3) = false := by simp [hq]
          clear hq
          go_wp2_with fail
          refine Calls.mono (Append_either D.out R.out) ?_
          rintro e w2 ⟨f, rfl, ⟨hle, rfl, ao', cap', hd2, hc2⟩ | ⟨hgt, rfl, hd2, hc2⟩⟩
          · have hc3 := D.out.next (Nat.le_refl _) C.out hc2
            clear hc2
            go_wp2_with fail
            go_roundw
            case rel => exact ⟨k + 1, _, _, _, _, by omega, by go_num, hd2, hc3⟩
            case measure => simp [intOf]; omega
          · have hc3 := C.out.trans hc2
            clear hc2
            go_wp2_with fail
            go_roundw
            case rel => exact ⟨k + 1, _, _, _, _, by omega, by go_num, hd2, hc3⟩
            case measure => simp [intOf]; omega
      · go_wp2_with fail
        clear hk hlt hm le
        obtain ⟨M, hM⟩ : ∃ M, M = min bs.length (sure + X) := ⟨_, rfl⟩
        have m1 : M ≤ bs.length := by omega
        have m2 : M ≤ sure + X := by omega
        have m3 : bs.length ≤ M ∨ sure + X ≤ M := by omega
        have m4 : sure ≤ M := by have := D.out.sure_le; omega
        have m5 : bs.length ≤ 100000 := D.out.le
        have ht : bs.take (sure + X) = bs.take M := by rw [hM, Nat.min_comm, ← List.take_take, List.take_length]
        have HM := Lib.hid hM; clear hM
        have HT := Lib.hid ht; clear ht
        have htl : (bs.take M).length = M := by rw [List.length_take]; omega
        have HL := Lib.hid htl; clear htl
        refine Calls.mono (Bytes_of D.out rfl) ?_
        rintro e w2 ⟨rfl, ho2, hc2⟩
        have O2 := Lib.hid ho2; clear ho2
        have D2 := Lib.hid (D.out.chg hc2 (fun h => h) (fun _ _ h => h))
        have C2 := Lib.hid (C.out.trans hc2); clear hc2
        go_wp2_with fail
        refine Calls.mono (Fail_of (m := X) D2.out (by rfl) (by unfold maxLen; omega)) ?_
        rintro e w3 ⟨pf, gf, rfl, hd3, hc3⟩
        rw [← HM.out, HT.out] at hd3
        have F3 := Lib.hid hd3; clear hd3
        have D3 := Lib.hid (D2.out.chg hc3 (fun h => h) (fun _ _ h => h))
        have O3 := Lib.hid (O2.out.chg hc3 (fun _ _ h => h))
        have S3 := Lib.hid hc3.size
        have C3 := Lib.hid (C2.out.trans hc3); clear hc3
        go_wp2_with fail
        refine Calls.mono (Bytes_of (n := M) F3.out HL.out) ?_
        rintro e w4 ⟨rfl, ho4, hc4⟩
        have P4 := Lib.hid ho4; clear ho4
        have F4 := Lib.hid (F3.out.chg hc4 (fun h => h) (fun _ _ h => h))
        have D4 := Lib.hid (D3.out.chg hc4 (fun h => h) (fun _ _ h => h))
        have O4 := Lib.hid (O3.out.chg hc4 (fun _ _ h => h))
        have S4 := Lib.hid hc4.size
        have C4 := Lib.hid (C3.out.trans hc4); clear hc4
        obtain ⟨hrb, _⟩ := Rd.of_Own_at P4.out
        obtain ⟨hrw, _⟩ := Rd.of_Own_at O4.out
        have RB := Lib.hid hrb; clear hrb
        have RW := Lib.hid hrw; clear hrw
        have s0 : (0 : Int) ≤ (M : Int) := by omega
        have s1 : (M : Int) ≤ (bs.length : Int) := by omega
        go_wp2_with (first | (go_at_call 22; refine Calls.mono (Sure_any D4.out) ?_; rintro e w' ⟨rfl, rfl⟩))
        all_goals
          refine Calls.mono (SameBytes_pre RB.out RW.out (by omega) (by omega)) ?_
          rintro e w5 ⟨rfl, q5, rfl⟩
          go_wp2_with fail
          refine Calls.mono (Sure_any (F4.out.drewN q5)) ?_
          rintro e w' ⟨rfl, rfl⟩
          go_wp2_with fail
          refine Calls.mono (Fail_zero (F4.out.drewN q5) HL.out rfl) ?_
          rintro e w6 ⟨pg, gg, rfl, hd6, hc6⟩
          have G6 := Lib.hid hd6; clear hd6
          have F6 := Lib.hid ((F4.out.drewN q5).chg hc6 (fun h => h) (fun _ _ h => h))
          have D6 := Lib.hid ((D4.out.drewN q5).chg hc6 (fun h => h) (fun _ _ h => h))
          have RB6 := Lib.hid ((RB.out.drewN q5).chg hc6 (fun h => h))
          have RW6 := Lib.hid ((RW.out.drewN q5).chg hc6 (fun h => h))
          have C6 := Lib.hid ((C4.out.drewN q5).trans hc6); clear hc6
          go_wp2_with fail
          refine Calls.mono (Bytes_of (n := M) G6.out HL.out) ?_
          rintro e w7 ⟨rfl, ho7, hc7⟩
          obtain ⟨hrg, _⟩ := Rd.of_Own_at ho7
          have RG := Lib.hid hrg; clear hrg ho7
          have G7 := Lib.hid (G6.out.chg hc7 (fun h => h) (fun _ _ h => h))
          have F7 := Lib.hid (F6.out.chg hc7 (fun h => h) (fun _ _ h => h))
          have D7 := Lib.hid (D6.out.chg hc7 (fun h => h) (fun _ _ h => h))
          have RB7 := Lib.hid (RB6.out.chg hc7 (fun h => h))
          have RW7 := Lib.hid (RW6.out.chg hc7 (fun h => h))
          have C7 := Lib.hid (C6.out.trans hc7); clear hc7
          go_wp2_with fail
          refine Calls.mono (SameBytes_chg RG.out RB7.out) ?_
          rintro e w8 ⟨rfl, hc8⟩
          have G8 := Lib.hid (G7.out.chg hc8 (fun h => h) (fun _ _ h => h))
          have F8 := Lib.hid (F7.out.chg hc8 (fun h => h) (fun _ _ h => h))
          have D8 := Lib.hid (D7.out.chg hc8 (fun h => h) (fun _ _ h => h))
          have RB8 := Lib.hid (RB7.out.chg hc8 (fun h => h))
          have RW8 := Lib.hid (RW7.out.chg hc8 (fun h => h))
          have C8 := Lib.hid (C7.out.trans hc8); clear hc8
          go_wp2_with fail
          refine Calls.mono (Append_lit_either F8.out [109, 111, 114, 101] (by rfl) (by rfl) (by decide)) ?_
          rintro e w9 ⟨f9, a9, c9, bs9, rfl, hd9, hc9⟩
          have F9 := Lib.hid hd9; clear hd9
          have G9 := Lib.hid (DiskAt.other F8.out G8.out F4.out.lt F4.out.alt hc9)
          have hbase : w.heap.size < w2.heap.size := D2.out.lt
          have D9 := Lib.hid (DiskAt.lower F8.out D8.out hbase D2.out.alt hc9)
          have RB9 := Lib.hid (Rd.upper F8.out RB8.out F3.out.lt F3.out.alt (Nat.le_refl _) hc9)
          have RW9 := Lib.hid (Rd.lower F8.out RW8.out (Rd.of_Own_at O2.out).2 hc9)
          have C9 := Lib.hid (F8.out.next (Nat.le_of_lt hbase) C8.out hc9); clear hc9
          go_wp2_with fail
          refine Calls.mono (Cut_either F9.out 0) ?_
          rintro e w10 ⟨f10, c10, s10, bs10, rfl, hd10, hc10⟩
          have pf1 : w2.heap.size ≤ pf := F9.out.base
          have pf2 : pf < w3.heap.size := F3.out.lt
          have pf3 : pf < w4.heap.size := F4.out.lt
          have wrl : wr.heap.size < w2.heap.size := (Rd.of_Own_at O2.out).2
          have G10 := Lib.hid (G9.out.chg hc10 (fun (hh : pg = pf) => by have h1 : w4.heap.size ≤ pg := G9.out.base; omega) (fun k hk (hh : k = pf) => by have h1 : w4.heap.size ≤ k := (G9.out.own.lt k hk).1; omega))
          have D10 := Lib.hid (D9.out.chg hc10 (fun (hh : w.heap.size = pf) => by omega) (fun k hk (hh : k = pf) => by have h1 := D2.out.alt k hk; omega))
          have RB10 := Lib.hid (RB9.out.chg hc10 (fun (hh : w3.heap.size = pf) => by omega))
          have RW10 := Lib.hid (RW9.out.chg hc10 (fun (hh : wr.heap.size = pf) => by omega))
          have C10 := Lib.hid (F9.out.next (Nat.le_of_lt hbase) C9.out hc10.one); clear hc10 hd10
          clear pf1 pf2 pf3 wrl
          go_wp2_with fail
          refine Calls.mono (Bytes_of D10.out rfl) ?_
          rintro e w11 ⟨rfl, ho11, hc11⟩
          obtain ⟨hx11, _⟩ := Rd.of_Own_at ho11
          have RX := Lib.hid hx11; clear hx11 ho11
          have G11 := Lib.hid (G10.out.chg hc11 (fun h => h) (fun _ _ h => h))
          have RB11 := Lib.hid (RB10.out.chg hc11 (fun h => h))
          have RW11 := Lib.hid (RW10.out.chg hc11 (fun h => h))
          have C11 := Lib.hid (C10.out.trans hc11); clear hc11
          go_wp2_with fail
          refine Calls.mono (SameBytes_chg RX.out RW11.out) ?_
          rintro e w12 ⟨rfl, hc12⟩
          have G12 := Lib.hid (G11.out.chg hc12 (fun h => h) (fun _ _ h => h))
          have RB12 := Lib.hid (RB11.out.chg hc12 (fun h => h))
          have C12 := Lib.hid (C11.out.trans hc12); clear hc12
          go_wp2_with fail
          refine Calls.mono (Bytes_of (n := M) G12.out HL.out) ?_
          rintro e w13 ⟨rfl, ho13, hc13⟩
          obtain ⟨hx13, _⟩ := Rd.of_Own_at ho13
          have RY := Lib.hid hx13; clear hx13 ho13
          have RB13 := Lib.hid (RB12.out.chg hc13 (fun h => h))
          have C13 := Lib.hid (C12.out.trans hc13); clear hc13
          go_wp2_with fail
          refine Calls.mono (SameBytes_chg RY.out RB13.out) ?_
          rintro e w14 ⟨rfl, hc14⟩
          have C14 := Lib.hid (C13.out.trans hc14); clear hc14
          go_wp2_with fail
          refine Calls.mono (lives19_any _) ?_
          rintro e w15 ⟨rfl, hc15⟩
          have C15 := Lib.hid (C14.out.trans hc15); clear hc15
          go_wp2_with fail
          go_ret
          exact ⟨rfl, C15.out.belowN⟩
end Go.Proofs.Ytbmopcmhokpchaa
