/- The chapter's disk lives. -/
import Derived.Test.YtbmopcmhokpchaaGreatDoorDisk
import Derived.Lib.SlBytesConst
namespace Go.Proofs.YtbmopcmhokpchaaGreatDoor
open Go.RowKit
set_option linter.unusedVariables false
attribute [local go_sem ↓] Go.wp_at_zero Go.wp_at_succ
theorem New_of {w : World} {size : Nat} {N : Int} (hN : N = (size : Int)) (hs : size ≤ 16777216) :
    Calls Tryz.prog 14 #[.int .i64 N] w fun e w' => e = .returned (.tuple #[.pointer (some ⟨w.heap.size, 0, none⟩), .int .i64 0]) ∧ DiskAt w' w.heap.size w.heap.size none 0 size 0 [] ∧ Chg Non w w' := by
  subst hN; exact New_yes hs
theorem Cut_of {w : World} {B p : Nat} {ao : Option Addr} {cap size sure : Nat} {bs : List UInt8} (h : DiskAt w B p ao cap size sure bs) {s : Nat} {N : Int} (hN : N = (s : Int)) (hs : s ≤ bs.length) :
    Calls Tryz.prog 25 #[.pointer (some ⟨p, 0, none⟩), .int .i64 N] w fun e w' => e = .returned (.int .i64 0) ∧ DiskAt w' B p ao s size s (bs.take s) ∧ Chg (fun k => k = p) w w' := by
  subst hN; exact Cut_yes h hs
theorem Fail_of {w : World} {B p : Nat} {ao : Option Addr} {cap size sure : Nat} {bs : List UInt8} (h : DiskAt w B p ao cap size sure bs) {m : Nat} {N : Int} (hN : N = (m : Int)) (hm : m ≤ maxLen) :
    Calls Tryz.prog 27 #[.pointer (some ⟨p, 0, none⟩), .int .i64 N] w fun e w' => ∃ p' g, e = .returned (.tuple #[.pointer (some ⟨p', 0, none⟩), .int .i64 0]) ∧
      DiskAt w' w.heap.size p' (some ⟨g, 0, none⟩) (min bs.length (sure + m)) size (min bs.length (sure + m)) (bs.take (sure + m)) ∧ Chg Non w w' := by
  subst hN; exact Fail_yes h hm
theorem DiskAt.next {w0 w w' : World} {B p : Nat} {ao : Option Addr} {cap size sure : Nat} {bs : List UInt8} (h : DiskAt w B p ao cap size sure bs) (hB : w0.heap.size ≤ B) (hc : Chg Non w0 w) (hs : Chg (fun k => k = p ∨ some k = blk ao) w w') : Chg Non w0 w' :=
  hc.next hs fun i hi hh => by
    have := h.base
    rcases hh with hh | hh
    · omega
    · have := (h.own.lt i hh).1; omega
theorem Chg.one {p : Nat} {ao : Option Addr} {w w' : World} (h : Chg (fun k => k = p) w w') : Chg (fun k => k = p ∨ some k = blk ao) w w' := h.mono fun _ _ h => .inl h
theorem DiskAt.mono {w : World} {B B' p : Nat} {ao : Option Addr} {cap size sure : Nat} {bs : List UInt8} (h : DiskAt w B p ao cap size sure bs) (hB : B' ≤ B) : DiskAt w B' p ao cap size sure bs :=
  ⟨h.hp, h.own.mono hB, h.sure_le, h.le, h.max, by have := h.base; omega⟩
/-- Another disk, whose blocks all lie from B2 on, is not touched by what is done with this one, below B2. -/
theorem DiskAt.other {w w' : World} {B p B2 p2 : Nat} {ao a2 : Option Addr} {cap size sure c2 s2 r2 : Nat} {bs b2 : List UInt8} (h : DiskAt w B p ao cap size sure bs) (h2 : DiskAt w B2 p2 a2 c2 s2 r2 b2) (hp : p < B2) (ha : ∀ k, some k = blk ao → k < B2)
    (hs : Chg (fun k => k = p ∨ some k = blk ao) w w') : DiskAt w' B2 p2 a2 c2 s2 r2 b2 :=
  h2.chg hs (fun hh => by
    have := h2.base
    rcases hh with hh | hh
    · omega
    · have := ha _ hh; omega) (fun k hk hh => by
    have := (h2.own.lt k hk).1
    rcases hh with hh | hh
    · omega
    · have := ha _ hh; omega)
theorem Append_lit {w : World} {B p : Nat} {ao : Option Addr} {cap size sure : Nat} {bs : List UInt8} (h : DiskAt w B p ao cap size sure bs) (cs : List UInt8) {C : Array Value} {fr : Nat × Nat} (hC : C = (cs.map bv).toArray) {n : Nat} (hl : cs.length = n) (hn : bs.length + n ≤ size) :
    Calls Tryz.prog 15 #[.pointer (some ⟨p, 0, none⟩), .slice (some ⟨w.heap.size, 0, none⟩) n n] (w.alloc (.cells C 5 fr)) fun e w' => e = .returned (.int .i64 0) ∧ ∃ ao' cap', DiskAt w' B p ao' cap' size sure (bs ++ cs) ∧ Chg (fun k => k = p ∨ some k = blk ao) w w' ∧ (∀ k, some k = blk ao' → some k = blk ao ∨ w.heap.size ≤ k) := by
  subst hC
  have hm := h.max
  have hd : DiskAt (w.alloc (.cells (cs.map bv).toArray 5 fr)) B p ao cap size sure bs := h.chg (S := Non) ((Chg.refl _ w).alloc _) (fun h => h) (fun _ _ h => h)
  refine Calls.mono (Append_yes hd (Rd.of_block (heap_alloc_new w _) hl (by unfold maxLen; omega)) hn) ?_
  rintro e w' ⟨rfl, ao', cap', h1, h2, h3⟩
  refine ⟨rfl, ao', cap', h1, ((Chg.refl (fun k => k = p ∨ some k = blk ao) w).alloc _).trans h2, fun k hk => ?_⟩
  rcases h3 with h3 | h3
  · exact .inl (by rw [hk, h3])
  · right
    rw [h3] at hk
    simp at hk
    omega
theorem Append_full {w : World} {B p : Nat} {ao : Option Addr} {cap size sure : Nat} {bs : List UInt8} (h : DiskAt w B p ao cap size sure bs) {O : Obj} {a2 : Option Addr} {n c2 : Nat} (hn : size < bs.length + n) (hm : n ≤ maxLen) :
    Calls Tryz.prog 15 #[.pointer (some ⟨p, 0, none⟩), .slice a2 n c2] (w.alloc O) fun e w' => e = .returned (.int .i64 7) ∧ DiskAt w' B p ao cap size sure bs ∧ Chg Non w w' := by
  have hd : DiskAt (w.alloc O) B p ao cap size sure bs := h.chg (S := Non) ((Chg.refl _ w).alloc _) (fun h => h) (fun _ _ h => h)
  refine Calls.mono (Append_no hd hn hm) ?_
  rintro e w' ⟨rfl, q, rfl⟩
  exact ⟨rfl, hd.drewN q, ((Chg.refl _ w).alloc _).drewN q⟩
theorem own_string {w : World} {B : Nat} {e : TypeId} {ao : Option Addr} {n cap : Nat} {bs : List UInt8} (h : Own w B e 1 ao n cap (bs.map bv)) {A : Array UInt8} (hA : A = bs.toArray) : (convert 22 9 (.slice ao n cap)).run Tryz.prog w = .ok (.string ⟨A⟩) w := by
  subst hA
  obtain ⟨b, _, hrd⟩ := Rd.of_Own h
  exact hrd.string Tryz.underlying22 Tryz.underlying5 Tryz.underlying9
set_option maxHeartbeats 1000000 in
set_option maxRecDepth 20000 in
theorem lives19_any (w : World) : Calls Tryz.prog 21 #[] w fun e w' => e = .returned (.bool true) ∧ Chg Non w w' := by
  have kc := fun (w : World) (C : Array Value) (n c : Nat) => Lib.run_convert_bytes_const (P := Tryz.prog) w 22 5 C n c Tryz.underlying22 Tryz.underlying5
  go_enter Tryz.func21, Tryz.ntmps21
  go_wp2_with fail
  refine Calls.mono (New_of (size := 5) (by rfl) (by omega)) ?_
  rintro e w1 ⟨rfl, hd1, hc1⟩
  have H1 := Lib.hid hd1; clear hd1
  have C1 := Lib.hid hc1; clear hc1
  go_wp2_with fail
  refine Calls.mono (Append_lit H1.out [97, 98] (by rfl) (by rfl) (by decide)) ?_
  rintro e w2 ⟨rfl, a2, c2, hd2, hc2, hb2⟩
  have H2 := Lib.hid hd2; clear hd2
  have C2 := Lib.hid (H1.out.next (Nat.le_refl _) C1.out hc2); clear hc2
  have B2 := Lib.hid hb2; clear hb2
  go_wp2_with fail
  refine Calls.mono (Sync_any H2.out) ?_
  rintro e w3 ⟨rfl, hd3, hc3⟩
  have H3 := Lib.hid hd3; clear hd3
  have C3 := Lib.hid (H2.out.next (Nat.le_refl _) C2.out hc3.one); clear hc3
  go_wp2_with fail
  refine Calls.mono (Append_lit H3.out [99, 100] (by rfl) (by rfl) (by decide)) ?_
  rintro e w4 ⟨rfl, a4, c4, hd4, hc4, hb4⟩
  have H4 := Lib.hid hd4; clear hd4
  have C4 := Lib.hid (H3.out.next (Nat.le_refl _) C3.out hc4); clear hc4
  have B4 := Lib.hid hb4; clear hb4
  go_wp2_with fail
  refine Calls.mono (Fail_of (m := 1) H4.out (by rfl) (by decide)) ?_
  rintro e w5 ⟨p5, g5, rfl, hd5, hc5⟩
  have H5 := Lib.hid hd5; clear hd5
  have H5d := Lib.hid (H4.out.chg hc5 (fun h => h) (fun _ _ h => h))
  have C5 := Lib.hid (C4.out.trans hc5); clear hc5
  go_wp2_with fail
  refine Calls.mono (Bytes_any H5d.out) ?_
  rintro e w6 ⟨rfl, ho6, hc6⟩
  have hcv := own_string (n := 4) (cap := 4) ho6 (A := #[97, 98, 99, 100]) (by rfl)
  have H6 := Lib.hid (H5.out.chg hc6 (fun h => h) (fun _ _ h => h))
  have H6d := Lib.hid (H5d.out.chg hc6 (fun h => h) (fun _ _ h => h))
  have C6 := Lib.hid (C5.out.trans hc6); clear hc6
  clear ho6
  go_wp2_with fail
  refine Calls.mono (Sure_any H6d.out) ?_
  rintro e w' ⟨rfl, rfl⟩
  go_wp2_with fail
  refine Calls.mono (Bytes_any H6.out) ?_
  rintro e w7 ⟨rfl, ho7, hc7⟩
  clear hcv
  have hcv := own_string (n := 3) (cap := 3) ho7 (A := #[97, 98, 99]) (by rfl)
  have H7d := Lib.hid (H6d.out.chg hc7 (fun h => h) (fun _ _ h => h))
  have C7 := Lib.hid (C6.out.trans hc7); clear hc7
  clear ho7
  go_wp2_with fail
  refine Calls.mono (Append_full H7d.out (by decide) (by decide)) ?_
  rintro e w8 ⟨rfl, hd8, hc8⟩
  have H8 := Lib.hid hd8; clear hd8
  have C8 := Lib.hid (C7.out.trans hc8); clear hc8
  clear hcv
  go_wp2_with fail
  refine Calls.mono (Cut_no H8.out (.inr (by decide))) ?_
  rintro e w' ⟨rfl, rfl⟩
  go_wp2_with fail
  refine Calls.mono (Cut_of (s := 1) H8.out (by rfl) (by decide)) ?_
  rintro e w9 ⟨rfl, hd9, hc9⟩
  have H9 := Lib.hid hd9; clear hd9
  have C9 := Lib.hid (H8.out.next (Nat.le_refl _) C8.out hc9.one); clear hc9
  go_wp2_with fail
  refine Calls.mono (Sure_any H9.out) ?_
  rintro e w' ⟨rfl, rfl⟩
  go_wp2_with fail
  refine Calls.mono Sync_nil ?_
  rintro e w' ⟨rfl, rfl⟩
  go_wp2_with fail
  refine Calls.mono Bytes_nil ?_
  rintro e w' ⟨rfl, rfl⟩
  go_wp2_with fail
  go_ret
  exact ⟨rfl, C9.out⟩
end Go.Proofs.YtbmopcmhokpchaaGreatDoor
