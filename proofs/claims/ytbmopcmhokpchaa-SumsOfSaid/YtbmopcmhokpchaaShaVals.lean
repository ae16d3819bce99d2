/- Some sums that the document fixes, reckoned by the kernel; 'alive' of the sums' statements. -/
import Derived.Test.YtbmopcmhokpchaaShaKeyed
import Derived.Test.YtbmopcmhokpchaaHex
import Derived.Lib.SlBytesConst
namespace Go.Proofs.Ytbmopcmhokpchaa
open Go.RowKit
set_option linter.unusedVariables false
attribute [local go_sem ↓] Go.wp_at_zero Go.wp_at_succ
theorem val_nil : hexs (sha []) = [101, 51, 98, 48, 99, 52, 52, 50, 57, 56, 102, 99, 49, 99, 49, 52, 57, 97, 102, 98, 102, 52, 99, 56, 57, 57, 54, 102, 98, 57, 50, 52, 50, 55, 97, 101, 52, 49, 101, 52, 54, 52, 57, 98, 57, 51, 52, 99, 97, 52, 57, 53, 57, 57, 49, 98, 55, 56, 53, 50, 98, 56, 53, 53] := by decide +kernel
theorem val_abc : hexs (sha [97, 98, 99]) = [98, 97, 55, 56, 49, 54, 98, 102, 56, 102, 48, 49, 99, 102, 101, 97, 52, 49, 52, 49, 52, 48, 100, 101, 53, 100, 97, 101, 50, 50, 50, 51, 98, 48, 48, 51, 54, 49, 97, 51, 57, 54, 49, 55, 55, 97, 57, 99, 98, 52, 49, 48, 102, 102, 54, 49, 102, 50, 48, 48, 49, 53, 97, 100] := by decide +kernel
theorem val_jefe : hexs (hmac [74, 101, 102, 101] [119, 104, 97, 116, 32, 100, 111, 32, 121, 97, 32, 119, 97, 110, 116, 32, 102, 111, 114, 32, 110, 111, 116, 104, 105, 110, 103, 63]) = [53, 98, 100, 99, 99, 49, 52, 54, 98, 102, 54, 48, 55, 53, 52, 101, 54, 97, 48, 52, 50, 52, 50, 54, 48, 56, 57, 53, 55, 53, 99, 55, 53, 97, 48, 48, 51, 102, 48, 56, 57, 100, 50, 55, 51, 57, 56, 51, 57, 100, 101, 99, 53, 56, 98, 57, 54, 52, 101, 99, 51, 56, 52, 51] := by decide +kernel
theorem Text_of {cs ds : List UInt8} (hl : cs.length = 32) (h : hexs cs = ds) (w : World) : Calls Try.prog 12 #[.agg (cs.map bv).toArray] w fun e w' => e = .returned (.string ⟨ds.toArray⟩) ∧ Chg Non w w' := by
  subst h; exact Text_any cs hl w
theorem Rd.lit {w : World} {g : Nat} {e : TypeId} {fr : Nat × Nat} {cs : Array Value} (hg : w.heap[g]? = some (.cells cs e fr)) {bs : List UInt8} (h : cs = (bs.map bv).toArray) {n : Nat} (hn : bs.length = n) (hm : n ≤ maxLen) : Rd w g (some ⟨g, 0, none⟩) n n bs := by
  subst h; exact Rd.of_block hg hn hm
set_option maxRecDepth 40000 in
set_option maxHeartbeats 1000000 in
theorem alive10_any (w : World) : Calls Try.prog 30 #[] w fun e w' => e = .returned (.bool true) ∧ Chg Non w w' := by
  have kc := fun (w : World) (C : Array Value) (n c : Nat) => Lib.run_convert_bytes_const (P := Try.prog) w 33 5 C n c Try.underlying33 Try.underlying5
  have kc2 : ∀ (w : World) (o : Obj) (C : Array Value) (n c : Nat), (convert 33 33 (.slice (some ⟨w.heap.size + 1, 0, none⟩) n c)).run Try.prog ((w.alloc o).alloc (.cells C 5)) = .ok (.slice (some ⟨w.heap.size + 1, 0, none⟩) n c) ((w.alloc o).alloc (.cells C 5 (C.size, C.size + 1))) := fun w o C n c => by
    have h := kc (w.alloc o) C n c
    rw [show (w.alloc o).heap.size = w.heap.size + 1 by simp] at h
    exact h
  go_enter Try.func30, Try.ntmps30
  go_wp2_with fail
  refine Calls.mono (Of_any (Rd.nil w 0) (by omega)) ?_
  rintro e w1 ⟨rfl, hc1⟩
  have C1 := Lib.hid hc1; clear hc1
  go_wp2_with fail
  refine Calls.mono (Text_of (sha_length _) val_nil _) ?_
  rintro e w2 ⟨rfl, hc2⟩
  have C2 := Lib.hid (C1.out.trans hc2); clear hc2
  go_wp2_with fail
  refine Calls.mono (Of_any (Rd.lit (bs := [97, 98, 99]) (heap_alloc_new w2 _) rfl rfl (by decide)) (by omega)) ?_
  rintro e w3 ⟨rfl, hc3⟩
  have C3 := Lib.hid (C2.out.trans (((Chg.refl _ _).alloc _).trans hc3)); clear hc3
  go_wp2_with fail
  refine Calls.mono (Text_of (sha_length _) val_abc _) ?_
  rintro e w4 ⟨rfl, hc4⟩
  have C4 := Lib.hid (C3.out.trans hc4); clear hc4
  go_wp2_with fail
  refine Calls.mono (Keyed_any (Rd.lit (bs := [74, 101, 102, 101]) (n := 4) (heap_alloc2_old w4 _ _) (by rfl) rfl (by decide)) (by omega) (Rd.lit (bs := [119, 104, 97, 116, 32, 100, 111, 32, 121, 97, 32, 119, 97, 110, 116, 32, 102, 111, 114, 32, 110, 111, 116, 104, 105, 110, 103, 63]) (n := 28) (heap_alloc2_new w4 _ _) (by rfl) rfl (by decide)) (by omega)) ?_
  rintro e w5 ⟨rfl, hc5⟩
  have C5 := Lib.hid (C4.out.trans ((((Chg.refl _ _).alloc _).alloc _).trans hc5)); clear hc5
  go_wp2_with fail
  refine Calls.mono (Text_of (hmac_length _ _) val_jefe _) ?_
  rintro e w6 ⟨rfl, hc6⟩
  have C6 := Lib.hid (C5.out.trans hc6); clear hc6
  go_wp2_with fail
  go_ret
  exact ⟨rfl, C6.out⟩
end Go.Proofs.Ytbmopcmhokpchaa
