/- 'alive' of the seals' statements. -/
import Derived.Test.YtbmopcmhokpchaaDoorSealsMade
namespace Go.Proofs.YtbmopcmhokpchaaDoor
open Go.RowKit Go.Shelf
set_option linter.unusedVariables false
set_option linter.unusedSimpArgs false
attribute [local go_sem ↓] Go.wp_at_zero Go.wp_at_succ
theorem Make_z {k nm s : List UInt8} {u : Nat} {z : Int} (hz : z = (u : Int)) (hk : k.length ≤ 1000000) (hn : nm.length ≤ 1000000) (hu : u < 18446744073709551616) (hs : sealOf k nm u = s) (w : World) (htab : Lib.TabIs Tryd.prog w "internal/strconv.uint64pow10" .u64 Lib.pow10Tab) :
    Calls Tryd.prog 7 #[.string ⟨k.toArray⟩, .string ⟨nm.toArray⟩, .int .u64 z] w fun e w' => e = .returned (.string ⟨s.toArray⟩) ∧ Chg Non w w' := by subst hs; subst hz; exact Make_any hk hn hu w htab
theorem Check_z {k nm : List UInt8} {u : Nat} {z : Int} (hz : z = (u : Int)) (hk : k.length ≤ 1000000) (hn : nm.length ≤ 1000000) (hu : u < 18446744073709551616) (sg : List UInt8) {b : Bool} (hb : decide (sg = sealOf k nm u) = b) (w : World) (htab : Lib.TabIs Tryd.prog w "internal/strconv.uint64pow10" .u64 Lib.pow10Tab) :
    Calls Tryd.prog 9 #[.string ⟨k.toArray⟩, .string ⟨nm.toArray⟩, .int .u64 z, .string ⟨sg.toArray⟩] w fun e w' => e = .returned (.bool b) ∧ Chg Non w w' := by subst hb; subst hz; exact Check_any hk hn hu sg w htab
theorem Keyed_z {S : List UInt8} {w : World} {kb : Nat} {ka : Option Addr} {kn kc : Nat} {ks : List UInt8} {b : Nat} {ao : Option Addr} {n cap : Nat} {ls : List UInt8} (hS : S = hmac ks ls) (hr : Rd w kb ka kn kc ks) (hkn : kn ≤ 800000000) (h : Rd w b ao n cap ls) (hn : n ≤ 800000000) :
    Calls Tryd.prog 13 #[.slice ka kn kc, .slice ao n cap] w fun e w' => e = .returned (.agg (S.map bv).toArray) ∧ Chg Non w w' := by subst hS; exact Keyed_any hr hkn h hn
theorem one_digit {u : Nat} (h : u < 10) (k nm : List UInt8) : sealOf k nm u = hexs (hmac k (nm ++ 0 :: [UInt8.ofNat (48 + u)])) := by rw [sealOf, decDigits_small h]
theorem apart1 : hexs (hmac [107, 101, 121] [97, 110, 110, 0, 49]) ≠ hexs (hmac [107, 101, 121] [97, 110, 110, 0, 50]) := by decide +kernel
theorem apart2 : hexs (hmac [107, 101, 121] [97, 110, 110, 0, 49]) ≠ hexs (hmac [107, 101, 121] [98, 111, 98, 0, 49]) := by decide +kernel
theorem no_empty (k nm : List UInt8) (u : Nat) : decide ([] = sealOf k nm u) = false := by
  rw [decide_eq_false_iff_not]
  intro h
  have := sealOf_length k nm u
  rw [← h] at this
  simp at this
set_option maxRecDepth 40000 in
set_option maxHeartbeats 2000000 in
theorem alive11_any (w : World) (htab : Lib.TabIs Tryd.prog w "internal/strconv.uint64pow10" .u64 Lib.pow10Tab) : Calls Tryd.prog 11 #[] w fun e w' => e = .returned (.bool true) ∧ Chg Non w w' := by
  have kc := fun (w : World) (C : Array Value) (n c : Nat) => Lib.run_convert_bytes_const (P := Tryd.prog) w 29 5 C n c Tryd.underlying29 Tryd.underlying5
  have kc2 : ∀ (w : World) (o : Obj) (C : Array Value) (n c : Nat), (convert 29 29 (.slice (some ⟨w.heap.size + 1, 0, none⟩) n c)).run Tryd.prog ((w.alloc o).alloc (.cells C 5)) = .ok (.slice (some ⟨w.heap.size + 1, 0, none⟩) n c) ((w.alloc o).alloc (.cells C 5 (C.size, C.size + 1))) := fun w o C n c => by
    have h := kc (w.alloc o) C n c
    rw [show (w.alloc o).heap.size = w.heap.size + 1 by simp] at h
    exact h
  have HT : Hid (∀ w', Chg Non w w' → Lib.TabIs Tryd.prog w' "internal/strconv.uint64pow10" .u64 Lib.pow10Tab) := Lib.hid (fun w' h => tab_chg htab h)
  clear htab
  obtain ⟨S1, hS1⟩ : ∃ S, hmac [107, 101, 121] [97, 110, 110, 0, 49] = S := ⟨_, rfl⟩
  obtain ⟨s1, hs1⟩ : ∃ s, hexs S1 = s := ⟨_, rfl⟩
  obtain ⟨S2, hS2⟩ : ∃ S, hmac [] [0, 48] = S := ⟨_, rfl⟩
  obtain ⟨s2, hs2⟩ : ∃ s, hexs S2 = s := ⟨_, rfl⟩
  have e1 : sealOf [107, 101, 121] [97, 110, 110] 1 = s1 := by rw [one_digit (by omega), ← hs1, ← hS1]; rfl
  have e0 : sealOf [] [] 0 = s2 := by rw [one_digit (by omega), ← hs2, ← hS2]; rfl
  have d1 : decide (s1 = sealOf [107, 101, 121] [97, 110, 110] 1) = true := by rw [e1]; exact decide_eq_true rfl
  have d2 : decide (s1 = sealOf [107, 101, 121] [97, 110, 110] 2) = false := by
    rw [decide_eq_false_iff_not, one_digit (by omega), ← hs1, ← hS1]; exact apart1
  have d3 : decide (s1 = sealOf [107, 101, 121] [98, 111, 98] 1) = false := by
    rw [decide_eq_false_iff_not, one_digit (by omega), ← hs1, ← hS1]; exact apart2
  have d4 := no_empty [107, 101, 121] [97, 110, 110] 1
  have E1 := Lib.hid e1; have E0 := Lib.hid e0; have D1 := Lib.hid d1; have D2 := Lib.hid d2; have D3 := Lib.hid d3; have D4 := Lib.hid d4
  have HS1 := Lib.hid hS1.symm; have Hs1 := Lib.hid hs1; have HS2 := Lib.hid hS2.symm; have Hs2 := Lib.hid hs2
  have L1 := Lib.hid (show S1.length = 32 by rw [← hS1]; exact hmac_length _ _)
  have L2 := Lib.hid (show S2.length = 32 by rw [← hS2]; exact hmac_length _ _)
  clear e1 e0 d1 d2 d3 d4 hS1 hs1 hS2 hs2
  go_enter Tryd.func11, Tryd.ntmps11
  go_wp2_with fail
  refine Calls.mono (Make_z (u := 1) (k := [107, 101, 121]) (nm := [97, 110, 110]) rfl (by decide) (by decide) (by decide) E1.out _ (HT.out _ (by simp))) ?_
  rintro e w1 ⟨rfl, hc1⟩
  have C1 := Lib.hid hc1; clear hc1
  go_wp2_with fail
  refine Calls.mono (Keyed_z HS1.out (Rd.lit (bs := [107, 101, 121]) (n := 3) (heap_alloc2_old w1 _ _) (by rfl) rfl (by decide)) (by omega) (Rd.lit (bs := [97, 110, 110, 0, 49]) (n := 5) (heap_alloc2_new w1 _ _) (by rfl) rfl (by decide)) (by omega)) ?_
  rintro e w2 ⟨rfl, hc2⟩
  have C2 := Lib.hid (C1.out.trans ((((Chg.refl _ _).alloc _).alloc _).trans hc2)); clear hc2
  go_wp2_with fail
  refine Calls.mono (Text_of L1.out Hs1.out _) ?_
  rintro e w3 ⟨rfl, hc3⟩
  have C3 := Lib.hid (C2.out.trans hc3); clear hc3
  go_wp2_with fail
  refine Calls.mono (Check_z (u := 1) (k := [107, 101, 121]) (nm := [97, 110, 110]) rfl (by decide) (by decide) (by decide) s1 D1.out _ (HT.out _ C3.out)) ?_
  rintro e w4 ⟨rfl, hc4⟩
  have C4 := Lib.hid (C3.out.trans hc4); clear hc4
  go_wp2_with fail
  refine Calls.mono (Check_z (u := 2) (k := [107, 101, 121]) (nm := [97, 110, 110]) rfl (by decide) (by decide) (by decide) s1 D2.out _ (HT.out _ C4.out)) ?_
  rintro e w5 ⟨rfl, hc5⟩
  have C5 := Lib.hid (C4.out.trans hc5); clear hc5
  go_wp2_with fail
  refine Calls.mono (Check_z (u := 1) (k := [107, 101, 121]) (nm := [98, 111, 98]) rfl (by decide) (by decide) (by decide) s1 D3.out _ (HT.out _ C5.out)) ?_
  rintro e w6 ⟨rfl, hc6⟩
  have C6 := Lib.hid (C5.out.trans hc6); clear hc6
  go_wp2_with fail
  refine Calls.mono (Check_z (u := 1) (k := [107, 101, 121]) (nm := [97, 110, 110]) rfl (by decide) (by decide) (by decide) [] D4.out _ (HT.out _ C6.out)) ?_
  rintro e w7 ⟨rfl, hc7⟩
  have C7 := Lib.hid (C6.out.trans hc7); clear hc7
  go_wp2_with fail
  refine Calls.mono (Make_z (u := 0) (k := []) (nm := []) rfl (by decide) (by decide) (by decide) E0.out _ (HT.out _ C7.out)) ?_
  rintro e w8 ⟨rfl, hc8⟩
  have C8 := Lib.hid (C7.out.trans hc8); clear hc8
  go_wp2_with fail
  refine Calls.mono (Keyed_z HS2.out (Rd.nil _ 0) (by omega) (Rd.lit (bs := [0, 48]) (n := 2) (heap_alloc_new w8 _) (by rfl) rfl (by decide)) (by omega)) ?_
  rintro e w9 ⟨rfl, hc9⟩
  have C9 := Lib.hid (C8.out.trans (((Chg.refl _ _).alloc _).trans hc9)); clear hc9
  go_wp2_with fail
  refine Calls.mono (Text_of L2.out Hs2.out _) ?_
  rintro e wA ⟨rfl, hcA⟩
  have CA := Lib.hid (C9.out.trans hcA); clear hcA
  go_wp2_with fail
  go_ret
  exact ⟨rfl, CA.out⟩
end Go.Proofs.YtbmopcmhokpchaaDoor
