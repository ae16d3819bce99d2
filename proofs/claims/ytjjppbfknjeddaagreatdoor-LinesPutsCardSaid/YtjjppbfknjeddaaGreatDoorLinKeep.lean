/- Contracts of the reader's inner steps: keep; the bytes functions; a line. -/
import Derived.Test.YtjjppbfknjeddaaGreatDoorLinP
import Derived.Test.YtjjppbfknjeddaaGreatDoorTwin
import Derived.Test.YtjjppbfknjeddaaGreatDoorCuts
import Derived.Deep.RegionHeld3
import Derived.Lib.SliceRun
namespace Go.Proofs.YtjjppbfknjeddaaGreatDoor
open Go.RowKit
set_option linter.unusedVariables false
set_option linter.unusedSimpArgs false
attribute [local go_sem ↓] Go.wp_at_zero Go.wp_at_succ
/-- What a reader keeps: its block p, its bytes s at ao. -/
structure LinAt (w : World) (B p : Nat) (ao : Option Addr) (cap : Nat) (s : List UInt8) : Prop where
  hp : w.heap[p]? = some (.cells #[.slice ao s.length cap] 61 (0, 0))
  own : Own w B 5 1 ao s.length cap (s.map bv)
  le : s.length ≤ 70002
  base : B ≤ p
theorem LinAt.c0 {w : World} {B p : Nat} {ao : Option Addr} {cap : Nat} {s : List UInt8} (h : LinAt w B p ao cap s) : w.cell? ⟨p, 0, none⟩ = some (.slice ao s.length cap) := by rw [cell_of_row w p 0 _ _ _ h.hp]; rfl
theorem LinAt.fr {w : World} {B p : Nat} {ao : Option Addr} {cap : Nat} {s : List UInt8} (h : LinAt w B p ao cap s) (j : Nat) : w.frozen? ⟨p, j, none⟩ = false := frozen_of_row w p j _ _ h.hp
theorem LinAt.lt {w : World} {B p : Nat} {ao : Option Addr} {cap : Nat} {s : List UInt8} (h : LinAt w B p ao cap s) : p < w.heap.size := (Array.getElem?_eq_some_iff.1 h.hp).1
theorem LinAt.apart {w : World} {B p : Nat} {ao : Option Addr} {cap : Nat} {s : List UInt8} (h : LinAt w B p ao cap s) : ∀ k, some k = blk ao → k ≠ p := by
  intro k hk e
  subst e
  obtain ⟨_, _, _, _, h5⟩ := h.own
  cases ao with
  | none => simp [blk] at hk
  | some a =>
    obtain ⟨g, cur, rfl, _, hg, _⟩ := h5 a rfl
    simp [blk] at hk
    subst hk
    rw [h.hp] at hg
    simp at hg
theorem LinAt.chg {S : Nat → Prop} {w w' : World} {B p : Nat} {ao : Option Addr} {cap : Nat} {s : List UInt8} (h : LinAt w B p ao cap s) (hc : Chg S w w') (h1 : ¬ S p) (h2 : ∀ k, some k = blk ao → ¬ S k) : LinAt w' B p ao cap s :=
  ⟨by rw [hc.block p h.lt h1]; exact h.hp, h.own.chg hc h2, h.le, h.base⟩
theorem LinAt.keep {w w' : World} {B p : Nat} {ao : Option Addr} {cap : Nat} {s : List UInt8} (h : LinAt w B p ao cap s) (hc : Chg Non w w') : LinAt w' B p ao cap s := h.chg hc (fun h => h) (fun _ _ h => h)
theorem LinAt.drewN {w : World} {B p : Nat} {ao : Option Addr} {cap : Nat} {s : List UInt8} (h : LinAt w B p ao cap s) (q : Nat) : LinAt (w.drewN q) B p ao cap s := ⟨h.hp, h.own, h.le, h.base⟩
set_option maxRecDepth 20000 in
set_option maxHeartbeats 1000000 in
theorem keep_any {w : World} {B p : Nat} {ao : Option Addr} {cap : Nat} {s : List UInt8} (h : LinAt w B p ao cap s) {b2 : Nat} {a2 : Option Addr} {n c2 : Nat} {bs : List UInt8} (hr : Rd w b2 a2 n c2 bs) :
    Calls Tryz.prog 19 #[.pointer (some ⟨p, 0, none⟩), .slice a2 n c2] w fun e w' => e = .returned (.tuple #[]) ∧ ∃ ao' cap', LinAt w' B p ao' cap' (keepB s bs) ∧ Chg (fun k => k = p ∨ some k = blk ao) w w' ∧ (blk ao' = blk ao ∨ blk ao' = some w.heap.size) := by
  have k2 := h.c0
  have k5 := h.fr 0
  have hpl := h.lt
  have hpB := h.base
  have hsl := h.le
  have hle := hr.2.2.1
  have hle2 := hr.2.1
  have hbn := hr.1
  unfold maxLen at hle
  obtain ⟨i0, hi, hz0, hz1, hz2⟩ := info_parts Tryz.info_u8
  have Hi := Lib.hid hi; clear hi
  have Hz0 := Lib.hid hz0; clear hz0
  have Hz1 := Lib.hid hz1; clear hz1
  have Hz2 := Lib.hid hz2; clear hz2
  obtain ⟨L, hL⟩ : ∃ L : Nat, 70002 - s.length = L := ⟨_, rfl⟩
  have hwr : IntKind.i64.wrap (70002 - (s.length : Int)) = (L : Int) := by rw [IntWalk.i64_in _ ⟨by omega, by omega⟩]; omega
  obtain ⟨M, hM⟩ : ∃ M : Nat, M = min n (70002 - s.length) := ⟨_, rfl⟩
  obtain ⟨hs1, hs2⟩ := hr.upto (P := Tryz.prog) (t := 42) Tryz.underlying42 (by kernel_rfl) .i64 (m := M) (by omega)
  have hkeep : keepB s bs = s ++ bs.take M := by
    unfold keepB
    rw [hM]
    rcases Nat.le_total n (70002 - s.length) with h' | h'
    · rw [Nat.min_eq_left h', List.take_of_length_le (by omega), List.take_of_length_le (by omega)]
    · rw [Nat.min_eq_right h']
  rw [hkeep]
  have H := Lib.hid h; clear h
  have HR2 := Lib.hid hs2; clear hs2
  have HM := Lib.hid hM
  clear hr hbn hkeep
  rw [hL] at hM HM
  have HL := Lib.hid hL; clear hL
  by_cases hc : n ≤ L
  · have hlt : ¬ (L : Int) < (n : Int) := by omega
    have eM : (M : Int) = (n : Int) := by omega
    rw [eM] at hs1
    clear eM hM
    go_enter Tryz.func19, Tryz.ntmps19
    go_region_law ((refine step_append_Own (by rfl) _ _ 42 42 (by rfl) B 5 1 1 i0 (.int .u8 0) Tryz.underlying42 Hi.out Hz0.out Hz1.out rfl Hz2.out ao s.length cap _ (by rfl) H.out.own.drew _ M _ (by rfl) ((HR2.out.drewN 1).src Tryz.underlying42) (by have := HM.out; have := HL.out; unfold maxLen; omega) (by have := HM.out; have := HL.out; omega) (by simp; omega) ?_; intro ao' cap' w1 hown1 hchg1 hb1 _; have hp1 : w1.heap[p]? = w.heap[p]? := hchg1.block p hpl (fun h => H.out.apart p h.1 rfl); have k6 : w1.cell? ⟨p, 0, none⟩ = some (.slice ao s.length cap) := (by rw [World.cell?_of_block (w := w) (a := ⟨p, 0, none⟩) hp1]; exact k2); have k7 : w1.frozen? ⟨p, 0, none⟩ = false := (by rw [World.frozen?_of_block (w := w) (a := ⟨p, 0, none⟩) hp1]; exact k5)))
    all_goals
      have hl : (s ++ bs.take M).length = s.length + M := by rw [List.length_append, HR2.out.1]
      have hcg : Chg (fun k => k = p ∨ some k = blk ao) w (w1.setCell ⟨p, 0, none⟩ (.slice ao' (s.length + M) cap')) :=
        Chg.setCell (a := w) (Chg.next (S := fun k => k = p ∨ some k = blk ao) (a := w) (b := w) (Chg.refl _ _) ⟨hchg1.os, hchg1.tape, hchg1.output, hchg1.size, hchg1.block⟩ (fun i _ h => .inr h.1)) (p := ⟨p, 0, none⟩) (.inr (.inl rfl)) _
      go_end0
      refine ⟨rfl, ao', cap', ⟨?_, ?_, ?_, H.out.base⟩, hcg, by simpa using hb1⟩
      · rw [heap_setCell_same w1 p 0 _ _ _ (hp1.trans H.out.hp), hl]; rfl
      · rw [hl, List.map_append]
        refine Own.same hown1 fun k hk => heap_setCell_other w1 ⟨p, 0, none⟩ k _ ?_
        rcases hb1 with hb1 | hb1
        · exact H.out.apart k (by rw [hk, hb1])
        · rw [hb1] at hk; simp at hk hpl ⊢; omega
      · have h1 := HM.out; have h2 := HL.out; omega
  · have hlt : (L : Int) < (n : Int) := by omega
    have eM : (M : Int) = (L : Int) := by omega
    rw [eM] at hs1
    clear eM hM
    go_enter Tryz.func19, Tryz.ntmps19
    go_region_law ((refine step_append_Own (by rfl) _ _ 42 42 (by rfl) B 5 1 1 i0 (.int .u8 0) Tryz.underlying42 Hi.out Hz0.out Hz1.out rfl Hz2.out ao s.length cap _ (by rfl) H.out.own.drew _ M _ (by rfl) ((HR2.out.drewN 1).src Tryz.underlying42) (by have := HM.out; have := HL.out; unfold maxLen; omega) (by have := HM.out; have := HL.out; omega) (by simp; omega) ?_; intro ao' cap' w1 hown1 hchg1 hb1 _; have hp1 : w1.heap[p]? = w.heap[p]? := hchg1.block p hpl (fun h => H.out.apart p h.1 rfl); have k6 : w1.cell? ⟨p, 0, none⟩ = some (.slice ao s.length cap) := (by rw [World.cell?_of_block (w := w) (a := ⟨p, 0, none⟩) hp1]; exact k2); have k7 : w1.frozen? ⟨p, 0, none⟩ = false := (by rw [World.frozen?_of_block (w := w) (a := ⟨p, 0, none⟩) hp1]; exact k5)))
    all_goals
      have hl : (s ++ bs.take M).length = s.length + M := by rw [List.length_append, HR2.out.1]
      have hcg : Chg (fun k => k = p ∨ some k = blk ao) w (w1.setCell ⟨p, 0, none⟩ (.slice ao' (s.length + M) cap')) :=
        Chg.setCell (a := w) (Chg.next (S := fun k => k = p ∨ some k = blk ao) (a := w) (b := w) (Chg.refl _ _) ⟨hchg1.os, hchg1.tape, hchg1.output, hchg1.size, hchg1.block⟩ (fun i _ h => .inr h.1)) (p := ⟨p, 0, none⟩) (.inr (.inl rfl)) _
      go_end0
      refine ⟨rfl, ao', cap', ⟨?_, ?_, ?_, H.out.base⟩, hcg, by simpa using hb1⟩
      · rw [heap_setCell_same w1 p 0 _ _ _ (hp1.trans H.out.hp), hl]; rfl
      · rw [hl, List.map_append]
        refine Own.same hown1 fun k hk => heap_setCell_other w1 ⟨p, 0, none⟩ k _ ?_
        rcases hb1 with hb1 | hb1
        · exact H.out.apart k (by rw [hk, hb1])
        · rw [hb1] at hk; simp at hk hpl ⊢; omega
      · have h1 := HM.out; have h2 := HL.out; omega
end Go.Proofs.YtjjppbfknjeddaaGreatDoor
