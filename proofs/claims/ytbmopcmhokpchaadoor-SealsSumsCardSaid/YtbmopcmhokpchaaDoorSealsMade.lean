/- SealsMade, walked. -/
import Derived.Test.YtbmopcmhokpchaaDoorSealRef
import Derived.Deep.RegionHeld3
namespace Go.Proofs.YtbmopcmhokpchaaDoor
open Go.RowKit Go.Shelf
set_option linter.unusedVariables false
set_option linter.unusedSimpArgs false
attribute [local go_sem ↓] Go.wp_at_zero Go.wp_at_succ
/-- The four cells of an asking that was put into a block. -/
structure AskAt (w : World) (g : Nat) (k nm : List UInt8) (u : Nat) (sg : List UInt8) : Prop where
  c0 : ∀ w', Chg Non w w' → w'.cell? ⟨g, 0, none⟩ = some (.string ⟨k.toArray⟩)
  c1 : ∀ w', Chg Non w w' → w'.cell? ⟨g, 1, none⟩ = some (.string ⟨nm.toArray⟩)
  c2 : ∀ w', Chg Non w w' → w'.cell? ⟨g, 2, none⟩ = some (.int .u64 (u : Int))
  c3 : ∀ w', Chg Non w w' → w'.cell? ⟨g, 3, none⟩ = some (.string ⟨sg.toArray⟩)
theorem AskAt.mk' {w : World} {g : Nat} {k nm : List UInt8} {u : Nat} {sg : List UInt8} {t : TypeId} {fr : Nat × Nat} (h : w.heap[g]? = some (.cells (askCells k nm u sg) t fr)) : AskAt w g k nm u sg := by
  have hb : ∀ w', Chg Non w w' → w'.heap[g]? = some (.cells (askCells k nm u sg) t fr) := fun w' hc => (hc.block g (Array.getElem?_eq_some_iff.1 h).1 (fun h => h)).trans h
  exact ⟨fun w' hc => by rw [cell_of_row w' g 0 _ _ _ (hb w' hc)]; rfl, fun w' hc => by rw [cell_of_row w' g 1 _ _ _ (hb w' hc)]; rfl, fun w' hc => by rw [cell_of_row w' g 2 _ _ _ (hb w' hc)]; rfl, fun w' hc => by rw [cell_of_row w' g 3 _ _ _ (hb w' hc)]; rfl⟩
theorem refMake_of {k nm s : List UInt8} {u : Nat} (hk : k.length ≤ 400000) (hn : nm.length ≤ 400000) (hu : u < 18446744073709551616) (hs : sealOf k nm u = s) (w : World) :
    Calls Tryd.prog 8 #[.string ⟨k.toArray⟩, .string ⟨nm.toArray⟩, .int .u64 (u : Int)] w fun e w' => e = .returned (.string ⟨s.toArray⟩) ∧ Chg Non w w' := by subst hs; exact refMake_any hk hn hu w
theorem Check_of {k nm : List UInt8} {u : Nat} (hk : k.length ≤ 1000000) (hn : nm.length ≤ 1000000) (hu : u < 18446744073709551616) (sg : List UInt8) {b : Bool} (hb : decide (sg = sealOf k nm u) = b) (w : World) (htab : Lib.TabIs Tryd.prog w "internal/strconv.uint64pow10" .u64 Lib.pow10Tab) :
    Calls Tryd.prog 9 #[.string ⟨k.toArray⟩, .string ⟨nm.toArray⟩, .int .u64 (u : Int), .string ⟨sg.toArray⟩] w fun e w' => e = .returned (.bool b) ∧ Chg Non w w' := by subst hb; exact Check_any hk hn hu sg w htab
theorem refCheck_of {k nm : List UInt8} {u : Nat} (hk : k.length ≤ 400000) (hn : nm.length ≤ 400000) (hu : u < 18446744073709551616) (sg : List UInt8) {b : Bool} (hb : decide (sg = sealOf k nm u) = b) (w : World) :
    Calls Tryd.prog 10 #[.string ⟨k.toArray⟩, .string ⟨nm.toArray⟩, .int .u64 (u : Int), .string ⟨sg.toArray⟩] w fun e w' => e = .returned (.bool b) ∧ Chg Non w w' := by subst hb; exact refCheck_any hk hn hu sg w
set_option maxRecDepth 40000 in
set_option maxHeartbeats 4000000 in
theorem SealsMade_any (k nm : List UInt8) (u : Nat) (sg : List UInt8) (hu : u < 18446744073709551616) (w : World) (htab : Lib.TabIs Tryd.prog w "internal/strconv.uint64pow10" .u64 Lib.pow10Tab) :
    Calls Tryd.prog 3 #[.agg (askCells k nm u sg)] w fun e w' => e = .returned (.bool true) ∧ Below w.heap.size w w' := by
  obtain ⟨w0, hw0⟩ : ∃ w0, w0 = w.alloc (.cells (askCells k nm u sg) 24) := ⟨_, rfl⟩
  have C0 : Hid (Chg Non w w0) := Lib.hid (by rw [hw0]; exact (Chg.refl _ _).alloc _)
  have A0 : Hid (w0.heap[w.heap.size]? = some (.cells (askCells k nm u sg) 24 (0, 0))) := Lib.hid (by rw [hw0]; exact heap_alloc_new _ _)
  have HT := Lib.hid (tab_chg htab C0.out); clear htab
  have hg := great_any k nm u sg
  have HB := Lib.hid (AskAt.mk' A0.out)
  have k0 := HB.out.c0; have k1 := HB.out.c1; have k2 := HB.out.c2; have k3 := HB.out.c3
  by_cases hgr : 3000 < k.length ∨ 3000 < nm.length ∨ 3000 < sg.length
  · rw [decide_eq_true hgr] at hg
    unfold askCells at hw0 hg ⊢
    have HG := Lib.hid hg
    clear hg hgr HB
    go_enter Tryd.func3, Tryd.ntmps3
    go_wp2_with fail
    rw [← hw0]
    go_wp2_with fail
    refine Calls.mono (HG.out _) ?_
    rintro e w1 ⟨rfl, hc1⟩
    have C1 := Lib.hid (C0.out.trans hc1); clear hc1
    go_wp2_with fail
    go_ret
    exact ⟨rfl, C1.out.belowN⟩
  · rw [decide_eq_false hgr] at hg
    have LK := Lib.hid (show k.length ≤ 3000 by omega); have LN := Lib.hid (show nm.length ≤ 3000 by omega)
    unfold askCells at hw0 hg ⊢
    have HG := Lib.hid hg
    obtain ⟨s, hs⟩ : ∃ s, sealOf k nm u = s := ⟨_, rfl⟩
    obtain ⟨b, hb⟩ : ∃ b, decide (sg = sealOf k nm u) = b := ⟨_, rfl⟩
    have HS := Lib.hid hs; have HBB := Lib.hid hb
    have HU := Lib.hid hu
    clear hg hgr hs hb hu
    go_enter Tryd.func3, Tryd.ntmps3
    go_wp2_with fail
    rw [← hw0]
    clear hw0
    go_wp2_with fail
    refine Calls.mono (HG.out _) ?_
    rintro e w1 ⟨rfl, hc1⟩
    have C1 := Lib.hid hc1
    have HT1 : Hid (∀ w', Chg Non w1 w' → Lib.TabIs Tryd.prog w' "internal/strconv.uint64pow10" .u64 Lib.pow10Tab) := Lib.hid (fun w' h => tab_chg HT.out (hc1.trans h))
    have k0 : ∀ w', Chg Non w1 w' → w'.cell? ⟨w.heap.size, 0, none⟩ = some (.string ⟨k.toArray⟩) := fun w' h => HB.out.c0 w' (hc1.trans h)
    have k1 : ∀ w', Chg Non w1 w' → w'.cell? ⟨w.heap.size, 1, none⟩ = some (.string ⟨nm.toArray⟩) := fun w' h => HB.out.c1 w' (hc1.trans h)
    have k2 : ∀ w', Chg Non w1 w' → w'.cell? ⟨w.heap.size, 2, none⟩ = some (.int .u64 (u : Int)) := fun w' h => HB.out.c2 w' (hc1.trans h)
    have k3 : ∀ w', Chg Non w1 w' → w'.cell? ⟨w.heap.size, 3, none⟩ = some (.string ⟨sg.toArray⟩) := fun w' h => HB.out.c3 w' (hc1.trans h)
    clear hc1
    go_wp2_with fail
    go_region_held3 (fun w' => Chg Non w1 w') (first | exact (Chg.refl _ _).drew | exact Chg.drew (Chg.refl _ _) | exact h2 | exact h3 | exact h4 | exact h5 | skip) (first
      | (go_at_call 7; with_reducible refine Calls.mono (Make_of (by have := LK.out; omega) (by have := LN.out; omega) HU.out HS.out _ (HT1.out _ (by simp))) ?_; rintro e w2 ⟨rfl, hc2⟩; have h2 : Chg Non w1 w2 := (by simpa using hc2); clear hc2)
      | (go_at_call 8; with_reducible refine Calls.mono (refMake_of (by have := LK.out; omega) (by have := LN.out; omega) HU.out HS.out _) ?_; rintro e w3 ⟨rfl, hc3⟩; have h3 : Chg Non w1 w3 := h2.trans (by simpa using hc3); clear hc3)
      | (go_at_call 9; with_reducible refine Calls.mono (Check_of (by have := LK.out; omega) (by have := LN.out; omega) HU.out sg HBB.out _ (HT1.out _ (by simp [h3]))) ?_; rintro e w4 ⟨rfl, hc4⟩; have h4 : Chg Non w1 w4 := h3.trans (by simpa using hc4); clear hc4)
      | (go_at_call 10; with_reducible refine Calls.mono (refCheck_of (by have := LK.out; omega) (by have := LN.out; omega) HU.out sg HBB.out _) ?_; rintro e w5 ⟨rfl, hc5⟩; have h5 : Chg Non w1 w5 := h4.trans (by simpa using hc5); clear hc5))
    all_goals go_wp2_with fail
    all_goals go_ret
    all_goals exact ⟨rfl, (C0.out.trans (C1.out.trans h5)).belowN⟩
end Go.Proofs.YtbmopcmhokpchaaDoor
