/- LogFrames, walked. -/
import Derived.Test.YtbmopcmhokpchaaGreatDoorBookUse
import Derived.Test.YtbmopcmhokpchaaGreatDoorRefLog
import Derived.Test.YtbmopcmhokpchaaGreatDoorLogLives
namespace Go.Proofs.YtbmopcmhokpchaaGreatDoor
open Go.RowKit
set_option linter.unusedVariables false
set_option linter.unusedSimpArgs false
attribute [local go_sem ↓] Go.wp_at_zero Go.wp_at_succ
theorem twin_rd {w : World} {B g n cap : Nat} {bs : List UInt8} (h : IsTwin w B g n cap bs) (hn : bs.length = n) : Rd w g (some ⟨g, 0, none⟩) n cap bs := by
  obtain ⟨b, hb, hr⟩ := Rd.of_Own h
  have hle := Own.le h
  have hp : 0 < cap := by omega
  have e := hb hp
  simp [blk] at e
  subst e
  obtain ⟨h1, h2, h3, h4, h5⟩ := hr
  obtain ⟨off, ho, hc⟩ := h5 hp
  refine ⟨hn, by omega, h3, h4, fun _ => ⟨off, ho, fun i hi => ?_⟩⟩
  rw [hc i (by omega)]
  simp [List.getD, List.getElem?_append_left (show i < bs.length by omega)]
set_option maxRecDepth 40000 in
set_option maxHeartbeats 2000000 in
theorem LogFrames_any {w : World} {b : Nat} {ao : Option Addr} {n cap : Nat} {bs : List UInt8} (h : Rd w b ao n cap bs) :
    Calls Tryz.prog 3 #[.slice ao n cap] w fun e w' => e = .returned (.bool true) ∧ Below w.heap.size w w' := by
  have le := h.2.1
  have hm := h.2.2.1
  unfold maxLen at hm
  have HR := Lib.hid h
  clear h
  by_cases hbig : 60000 < n
  · have h1 : (60000 : Int) < (n : Int) := by omega
    go_enter Tryz.func3, Tryz.ntmps3
    go_wp2_with fail
    refine Calls.mono (lives20_any _) ?_
    rintro e w1 ⟨rfl, hc1⟩
    go_wp2_with fail
    go_ret
    exact ⟨rfl, hc1.belowN⟩
  · have h1 : ¬ (60000 : Int) < (n : Int) := by omega
    go_enter Tryz.func3, Tryz.ntmps3
    go_wp2_with fail
    refine Calls.mono (TwinBytes_any HR.out (by omega)) ?_
    rintro e w1 ⟨g1, cap1, rfl, ht1, hc1⟩
    have T1 := Lib.hid ht1; have C1 := Lib.hid hc1
    clear ht1 hc1
    go_wp2_with fail
    refine Calls.mono (Frame_any (twin_rd T1.out HR.out.1) (by omega)) ?_
    rintro e w2 ⟨a2, rfl, ho2, hc2⟩
    have O2 := Lib.hid ho2
    have T2 := Lib.hid (Own.chg T1.out hc2 (fun _ _ h => h))
    have Z1 := Lib.hid ((Own.lt T1.out g1 rfl).2)
    have C2 := Lib.hid (C1.out.trans hc2)
    clear ho2 hc2
    go_wp2_with fail
    refine Calls.mono (refFrame_any (HR.out.chg C2.out (fun h => h)) (by omega)) ?_
    rintro e w3 ⟨a3, c3, rfl, ho3, hc3⟩
    obtain ⟨g2, _, hr2⟩ := Rd.of_Own (O2.out.chg hc3 (fun _ _ h => h))
    obtain ⟨g3, _, hr3⟩ := Rd.of_Own ho3
    have R2 := Lib.hid hr2; have R3 := Lib.hid hr3
    have O3 := Lib.hid (O2.out.chg hc3 (fun _ _ h => h))
    have T3 := Lib.hid (Own.chg T2.out hc3 (fun _ _ h => h))
    have C3 := Lib.hid (C2.out.trans hc3)
    clear ho3 hc3 hr2 hr3
    go_wp2_with (first
      | (go_at_call 10; refine Calls.mono (SameBytes_any R2.out R3.out) ?_; rintro e w4 ⟨rfl, q4, rfl⟩; rw [show decide (frameB bs = frameB bs) = true from decide_eq_true rfl])
      | (go_at_call 11; refine Calls.mono (LeftBytes_any (Own.drewN T3.out q4) ((HR.out.chg C3.out (fun h => h)).drewN q4)) ?_; rintro e w5 ⟨rfl, q5, rfl⟩))
    obtain ⟨X1, hX1⟩ := twin_ownZ T3.out
    have A1 := Lib.hid hX1
    clear hX1
    refine Calls.mono (Bytes_book (w0 := w) (L := []) (BookB.start (C3.out.drewN _) (by rfl)) (by simp) (X := X1) (A1.out.chg (S := Non) (((Chg.refl _ _).drewN _).alloc _) (fun _ _ h => h)) (by omega) (by simp)) ?_
    rintro e w7 ⟨⟨v, rfl⟩, hb7, hc7⟩
    have OZ : OwnZ w3 w1.heap.size 5 a2 (n + 12) (n + 12) ((frameB bs).map bv) := .inl O3.out
    have OZ2 := (OZ.chg (S := Non) (((Chg.refl _ w3).drewN (q4 + q5)).alloc (.cells (bookRow 0 (.slice none 0 0) (.slice none 0 0) (.slice none 0 0)) 42 (0, 0))) (fun _ _ h => h))
    have O7 := Lib.hid (OZ2.chg hc7 (BS.not_ownZ OZ2 (by decide) (by decide)))
    have B7 := Lib.hid hb7
    clear hb7 hc7 OZ OZ2
    go_wp2_with fail
    refine Calls.mono (Bytes_book B7.out (by simp) (O7.out.mono C1.out.size) (by omega) (fun q hq g hg e => by
      simp only [List.nil_append, List.mem_singleton] at hg
      subst hg
      have h1 := (O7.out.lt q hq).1
      have h2 := (A1.out.lt q e)
      have h3 : q = g1 := by
        by_cases hc : cap1 = 0
        · simp [blkZ, hc] at e
        · simp [blkZ, hc, blk] at e; exact e
      have := Z1.out
      omega)) ?_
    rintro e w8 ⟨⟨v2, rfl⟩, hb8, hc8⟩
    have B8 := Lib.hid hb8
    clear hb8 hc8
    go_wp2_with (first
      | (go_at_call 13; refine Calls.mono (Apart_book B8.out (by simp)) ?_; rintro e w9 ⟨rfl, hc9⟩; have C9 := Lib.hid hc9; clear hc9)
      | (go_at_call 6; refine Calls.mono (lives20_any _) ?_; rintro e w10 ⟨rfl, hc10⟩; have C10 := Lib.hid (C9.out.trans hc10); clear hc10))
    go_ret
    exact ⟨rfl, C10.out.belowN⟩
end Go.Proofs.YtbmopcmhokpchaaGreatDoor
