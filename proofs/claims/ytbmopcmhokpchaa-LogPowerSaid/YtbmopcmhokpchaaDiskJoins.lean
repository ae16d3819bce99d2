/- DiskJoins, walked. -/
import Derived.Test.YtbmopcmhokpchaaDiskLives
import Derived.Deep.DeepCutAuto
import Derived.Deep.CutBlock
namespace Go.Proofs.Ytbmopcmhokpchaa
open Go.RowKit
set_option linter.unusedVariables false
attribute [local go_sem ↓] Go.wp_at_zero Go.wp_at_succ
theorem Rd.cut {w : World} {b o n c : Nat} {bs : List UInt8} (h : Rd w b (some ⟨b, o, none⟩) n c bs) {i L : Nat} (hi : i < n) (hL : i + L ≤ n) : Rd w b (some ⟨b, o + i, none⟩) L (c - i) ((bs.drop i).take L) := by
  obtain ⟨h1, h2, h3, h4, h5⟩ := h
  obtain ⟨off, ho, hc⟩ := h5 (by omega)
  simp only [Option.some.injEq, Addr.mk.injEq, true_and, and_true] at ho
  subst ho
  refine ⟨by simp; omega, by omega, by omega, (fun h => by cases h), fun _ => ⟨o + i, rfl, fun j hj => ?_⟩⟩
  rw [Nat.add_assoc, hc (i + j) (by omega)]
  have e : ((bs.drop i).take L)[j]? = bs[i + j]? := by
    rw [List.getElem?_take, if_pos hj, List.getElem?_drop]
  simp only [List.getD, e]
theorem Append_either {w : World} {B p : Nat} {ao : Option Addr} {cap size sure : Nat} {bs : List UInt8} (h : DiskAt w B p ao cap size sure bs) {b2 : Nat} {a2 : Option Addr} {n c2 : Nat} {cs : List UInt8} (hr : Rd w b2 a2 n c2 cs) :
    Calls Try.prog 19 #[.pointer (some ⟨p, 0, none⟩), .slice a2 n c2] w fun e w' => ∃ f : Int, e = .returned (.int .i64 f) ∧
      ((bs.length + n ≤ size ∧ f = 0 ∧ ∃ ao' cap', DiskAt w' B p ao' cap' size sure (bs ++ cs) ∧ Chg (fun k => k = p ∨ some k = blk ao) w w') ∨ (size < bs.length + n ∧ f = 7 ∧ DiskAt w' B p ao cap size sure bs ∧ Chg Non w w')) := by
  by_cases hn : bs.length + n ≤ size
  · refine Calls.mono (Append_yes h hr hn) ?_
    rintro e w' ⟨rfl, ao', cap', h1, h2, _⟩
    exact ⟨0, rfl, .inl ⟨hn, rfl, ao', cap', h1, h2⟩⟩
  · refine Calls.mono (Append_no h (by omega) (Nat.le_trans hr.2.1 hr.2.2.1)) ?_
    rintro e w' ⟨rfl, q, rfl⟩
    exact ⟨7, rfl, .inr ⟨by omega, rfl, h.drewN q, (Chg.refl _ _).drewN q⟩⟩
theorem Rd.take {w : World} {b : Nat} {ao : Option Addr} {n c : Nat} {bs : List UInt8} (h : Rd w b ao n c bs) {k : Nat} (hk : k ≤ n) : Rd w b ao k c (bs.take k) := by
  obtain ⟨h1, h2, h3, h4, h5⟩ := h
  refine ⟨by simp; omega, by omega, h3, h4, fun hp => ?_⟩
  obtain ⟨off, ho, hc⟩ := h5 hp
  refine ⟨off, ho, fun j hj => ?_⟩
  rw [hc j (by omega)]
  simp only [List.getD, List.getElem?_take, if_pos hj]
theorem Bytes_of {w : World} {B p : Nat} {ao : Option Addr} {cap size sure : Nat} {bs : List UInt8} (h : DiskAt w B p ao cap size sure bs) {n : Nat} (hn : bs.length = n) :
    Calls Try.prog 20 #[.pointer (some ⟨p, 0, none⟩)] w fun e w' => e = .returned (.slice (some ⟨w.heap.size, 0, none⟩) n n) ∧ Own w' w.heap.size 5 1 (some ⟨w.heap.size, 0, none⟩) n n (bs.map bv) ∧ Chg Non w w' := by
  subst hn; exact Bytes_any h
theorem Sure_of {w : World} {B p : Nat} {ao : Option Addr} {cap size sure : Nat} {bs : List UInt8} (h : DiskAt w B p ao cap size sure bs) {S : Int} (hS : S = (sure : Int)) :
    Calls Try.prog 22 #[.pointer (some ⟨p, 0, none⟩)] w fun e w' => e = .returned (.int .i64 S) ∧ w = w' := by
  subst hS; exact Sure_any h
theorem SameBytes_yes {w : World} {b1 b2 : Nat} {a1 a2 : Option Addr} {n1 c1 n2 c2 : Nat} {bs : List UInt8} (h1 : Rd w b1 a1 n1 c1 bs) (h2 : Rd w b2 a2 n2 c2 bs) :
    Calls Try.prog 23 #[.slice a1 n1 c1, .slice a2 n2 c2] w fun e w' => e = .returned (.bool true) ∧ ∃ q, w' = w.drewN q := by
  refine Calls.mono (SameBytes_any h1 h2) ?_
  rintro e w' ⟨rfl, h⟩
  exact ⟨by simp, h⟩
set_option maxHeartbeats 1000000 in
set_option maxRecDepth 20000 in
theorem DiskJoins_any {w : World} {b1 : Nat} {a1 : Option Addr} {n1 c1 : Nat} {bs : List UInt8} (h1 : Rd w b1 a1 n1 c1 bs) {b2 : Nat} {a2 : Option Addr} {n2 c2 : Nat} {cs : List UInt8} (h2 : Rd w b2 a2 n2 c2 cs) {x : Int} (hx : (Lit.int .u16 x).wf = true) :
    Calls Try.prog 5 #[.slice a1 n1 c1, .slice a2 n2 c2, .int .u16 x] w fun e w' => e = .returned (.bool true) ∧ Below w.heap.size w w' := by
  have hxb : 0 ≤ x ∧ x ≤ 65535 := by
    simp [Lit.wf, IntKind.min, IntKind.max] at hx
    first | omega | (simp [IntKind.signed, IntKind.bits] at hx; omega)
  clear hx
  obtain ⟨X, rfl⟩ := Int.eq_ofNat_of_zero_le hxb.1
  have H1 := Lib.hid h1
  have H2 := Lib.hid h2
  have le1 := h1.2.1
  have m1 := h1.2.2.1
  have le2 := h2.2.1
  have m2 := h2.2.2.1
  unfold maxLen at m1 m2
  clear h1 h2
  by_cases hg : 20000 < n1
  · go_enter Try.func5, Try.ntmps5
    go_wp2_with (go_at_call 15; refine Calls.mono (lives19_any _) ?_; rintro e w1 ⟨rfl, hc1⟩)
    go_ret
    exact ⟨rfl, hc1.belowN⟩
  · go_enter Try.func5, Try.ntmps5
    go_wp2_with fail
    refine Calls.mono (New_of (size := X) (by rfl) (by omega)) ?_
    rintro e w0 ⟨rfl, hd0, hc0⟩
    have D0 := Lib.hid hd0; clear hd0
    have C0 := Lib.hid hc0; clear hc0
    go_upto_block 0 with (fail)
    go_cut [9] (fun s9 wx => ∃ at_ cap : Nat, ∃ ao, at_ ≤ n1 ∧ s9 = .int .i64 at_ ∧ DiskAt wx w.heap.size w.heap.size ao cap X 0 (bs.take at_) ∧ Chg Non w wx)
    case first =>
      go_wp2_with fail
      go_loopw [9, 10] (fun t i wr => ∃ at_ k cap : Nat, ∃ ao, at_ ≤ n1 ∧ k ≤ at_ ∧ t = .int .i64 at_ ∧ i = .int .i64 k ∧ DiskAt wr w.heap.size w.heap.size ao cap X 0 (bs.take at_) ∧ Chg Non w wr) (fun t _ _ => n1 - (intOf t).toNat)
      case atStart => exact ⟨0, 0, 0, none, by omega, by omega, rfl, rfl, D0.out, C0.out⟩
      case round =>
        obtain ⟨at_, k, cap, ao, ht, hk, rfl, rfl, hd, hc⟩ := hrel
        have D := Lib.hid hd; clear hd
        have C := Lib.hid hc; clear hc
        by_cases hlt : at_ < n1
        · obtain ⟨o1, rfl, r1⟩ := H1.out.2.2.2.2 (by omega)
          have R1 := Lib.hid r1; clear r1
          have htl : (bs.take at_).length = at_ := by rw [List.length_take]; have := H1.out.1; omega
          have tl1 : (bs.take at_).length ≤ at_ := by omega
          have tl2 : at_ ≤ (bs.take at_).length := by omega
          clear htl
          by_cases hn2 : n2 ≤ 0
          · go_wp2_with fail
            refine Calls.mono (Append_either D.out (Rd.cut (H1.out.chg C.out (fun h => h)) hlt (by omega))) ?_
            rintro e w2 ⟨f, rfl, ⟨hle, rfl, ao', cap', hd2, hc2⟩ | ⟨hgt, rfl, hd2, hc2⟩⟩
            · go_wp2_with fail
              have hd3 := hd2
              rw [← List.take_add] at hd3
              have hc3 := D.out.next (Nat.le_refl _) C.out hc2
              clear hd2 hc2
              go_roundw
              case rel =>
                refine ⟨_, k + 1, cap', ao', ?_, ?_, ?_, by go_num, hd3, hc3⟩
                · omega
                · omega
                · congr 1; omega
              case measure => simp [intOf]; omega
            · go_wp2_with fail
              go_meet
              exact ⟨at_, cap, ao, ht, rfl, hd2, C.out.trans hc2⟩
          · obtain ⟨o2, rfl, r2⟩ := H2.out.2.2.2.2 (by omega)
            have hmod : k % n2 < n2 := Nat.mod_lt _ (by omega)
            have d2 : wr.cell? ⟨b2, o2 + k % n2, none⟩ = some (.int .u8 ((cs.getD (k % n2) 0).toNat : Int)) := (C.out.cell (p := ⟨b2, o2 + k % n2, none⟩) (H2.out.lt (by omega)) (fun h => h)).trans (r2 _ hmod)
            clear r2
            generalize hc : cs.getD (k % n2) 0 = c at d2
            have Hc := Lib.hid hc; clear hc
            have hcb := c.toNat_lt
            have n2p : 0 < n2 := by omega
            have k0 : (0 : Int) ≤ ((k : Int) % (n2 : Int)) := by omega
            have k1 : ((k : Int) % (n2 : Int)) < (n2 : Int) := by omega
            go_wp2_with fail
            all_goals
              refine Calls.mono (Append_either D.out (Rd.cut (H1.out.chg C.out (fun h => h)) hlt (by omega))) ?_
              rintro e w2 ⟨f, rfl, ⟨hle, rfl, ao', cap', hd2, hc2⟩ | ⟨hgt, rfl, hd2, hc2⟩⟩
              · go_wp2_with fail
                have hd3 := hd2
                rw [← List.take_add] at hd3
                have hc3 := D.out.next (Nat.le_refl _) C.out hc2
                clear hd2 hc2
                go_roundw
                case rel =>
                  refine ⟨_, k + 1, cap', ao', ?_, ?_, ?_, by go_num, hd3, hc3⟩
                  · omega
                  · omega
                  · congr 1; omega
                case measure => simp [intOf]; omega
              · go_wp2_with fail
                go_meet
                exact ⟨at_, cap, ao, ht, rfl, hd2, C.out.trans hc2⟩
        · go_wp2_with fail
          go_meet
          exact ⟨at_, cap, ao, ht, rfl, D.out, C.out⟩
    case rest =>
      obtain ⟨at_, cap, ao, ht, rfl, hd, hc⟩ := hcut
      have DE := Lib.hid hd; clear hd
      have CE := Lib.hid hc; clear hc
      have htl : (bs.take at_).length = at_ := by rw [List.length_take]; have := H1.out.1; omega
      have tl1 : (bs.take at_).length ≤ at_ := by omega
      have tl2 : at_ ≤ (bs.take at_).length := by omega
      clear htl
      go_wp2_with fail
      have R0 := Lib.hid (fun (w' : World) (h : Chg Non w w') => (H1.out.chg h (fun h => h)).take ht)
      have s0 : (0 : Int) ≤ (at_ : Int) := by omega
      have s1 : (at_ : Int) ≤ (c1 : Int) := by omega
      go_region_held3 (fun w' => Chg Non w w') (first | exact CE.out.drew | exact C3.out | exact C3.out.drewN _ | exact C5.out | exact C6.out | skip) (first | (go_at_call 20; refine Calls.mono (Bytes_of (n := at_) (DE.out.drewN 1) (by omega)) ?_; rintro e w3 ⟨rfl, ho3, hc3⟩; have D3 := Lib.hid ((DE.out.drewN 1).chg hc3 (fun h => h) (fun _ _ h => h)); have C3 := Lib.hid ((CE.out.drewN 1).trans hc3); obtain ⟨g3, hg3, hr3⟩ := Rd.of_Own ho3; have R3 := Lib.hid hr3; clear hr3 hg3 ho3 hc3) | (go_at_call 23; refine Calls.mono (SameBytes_yes R3.out (R0.out _ C3.out)) ?_; rintro e w4 ⟨rfl, q4, rfl⟩) | (go_at_call 17; refine Calls.mono (Sync_any (D3.out.drewN _)) ?_; rintro e w5 ⟨rfl, hd5, hc5⟩; have D5 := Lib.hid hd5; have C5 := Lib.hid ((D3.out.drewN _).next (Nat.le_refl _) (C3.out.drewN _) hc5.one); clear hd5 hc5) | (go_at_call 22; refine Calls.mono (Sure_of (D5.out) (S := (at_ : Int)) (by omega)) ?_; rintro e w' ⟨rfl, rfl⟩) | (go_at_call 22; refine Calls.mono (Sure_of (D3.out.drewN _) (S := 0) (by rfl)) ?_; rintro e w' ⟨rfl, rfl⟩) | (go_at_call 15; refine Calls.mono (lives19_any _) ?_; rintro e w6 ⟨rfl, hc6⟩; have C6 := Lib.hid (C5.out.trans hc6); clear hc6))
      all_goals go_wp2
      all_goals go_ret
      all_goals exact ⟨rfl, C6.out.belowN⟩
end Go.Proofs.Ytbmopcmhokpchaa
