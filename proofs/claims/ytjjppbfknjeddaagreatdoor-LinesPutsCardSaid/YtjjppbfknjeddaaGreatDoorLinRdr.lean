/- A reader, whole: New, Put, Left. -/
import Derived.Test.YtjjppbfknjeddaaGreatDoorLinPutC
namespace Go.Proofs.YtjjppbfknjeddaaGreatDoor
open Go.RowKit Go.Shelf
set_option linter.unusedVariables false
set_option linter.unusedSimpArgs false
attribute [local go_sem ↓] Go.wp_at_zero Go.wp_at_succ
/-- A reader that a call made: its block r, the block p behind it, what it keeps. -/
structure RdrAt (w : World) (B r p : Nat) (ao : Option Addr) (cap : Nat) (s : List UInt8) : Prop where
  hr : w.heap[r]? = some (.cells #[.pointer (some ⟨p, 0, none⟩)] 57 (0, 0))
  st : LinAt w B p ao cap s
  rp : r ≠ p ∧ some r ≠ blk ao
  br : B ≤ r
theorem RdrAt.lt {w : World} {B r p : Nat} {ao : Option Addr} {cap : Nat} {s : List UInt8} (h : RdrAt w B r p ao cap s) : r < w.heap.size := (Array.getElem?_eq_some_iff.1 h.hr).1
theorem RdrAt.keep {w w' : World} {B r p : Nat} {ao : Option Addr} {cap : Nat} {s : List UInt8} (h : RdrAt w B r p ao cap s) (hc : Chg Non w w') : RdrAt w' B r p ao cap s :=
  ⟨(hc.block r h.lt (fun h => h)).trans h.hr, h.st.keep hc, h.rp, h.br⟩
theorem RdrAt.chg {S : Nat → Prop} {w w' : World} {B r p : Nat} {ao : Option Addr} {cap : Nat} {s : List UInt8} (h : RdrAt w B r p ao cap s) (hc : Chg S w w') (h0 : ¬ S r) (h1 : ¬ S p) (h2 : ∀ k, some k = blk ao → ¬ S k) : RdrAt w' B r p ao cap s :=
  ⟨(hc.block r h.lt h0).trans h.hr, h.st.chg hc h1 h2, h.rp, h.br⟩
theorem New_any (w : World) : Calls Tryz.prog 5 #[] w fun e w' => e = .returned (.pointer (some ⟨w.heap.size + 1, 0, none⟩)) ∧ RdrAt w' w.heap.size (w.heap.size + 1) w.heap.size none 0 [] ∧ Chg Non w w' := by
  go_enter Tryz.func5, Tryz.ntmps5
  go_wp2
  go_ret
  refine ⟨rfl, ⟨?_, ⟨?_, Own.nil _ _ _ _, by simp, Nat.le_refl _⟩, ⟨by omega, by simp [blk]⟩, by omega⟩, ((Chg.refl _ _).alloc _).alloc _⟩
  · exact heap_alloc2_new w _ _
  · exact heap_alloc2_old w _ _
theorem Left_any {w : World} {B r p : Nat} {ao : Option Addr} {cap : Nat} {s : List UInt8} (h : RdrAt w B r p ao cap s) :
    Calls Tryz.prog 12 #[.pointer (some ⟨r, 0, none⟩)] w fun e w' => e = .returned (.int .i64 (s.length : Int)) ∧ w = w' := by
  have c0 := h.st.c0
  have r0 : w.cell? ⟨r, 0, none⟩ = some (.pointer (some ⟨p, 0, none⟩)) := by rw [cell_of_row w r 0 _ _ _ h.hr]; rfl
  clear h
  go_enter Tryz.func12, Tryz.ntmps12
  go_wp2
  go_ret
  exact ⟨rfl, rfl⟩
theorem Left_of {w : World} {B r p : Nat} {ao : Option Addr} {cap : Nat} {s : List UInt8} (h : RdrAt w B r p ao cap s) {z : Int} (hz : (s.length : Int) = z) :
    Calls Tryz.prog 12 #[.pointer (some ⟨r, 0, none⟩)] w fun e w' => e = .returned (.int .i64 z) ∧ w = w' := by subst hz; exact Left_any h
/-- What Put leaves: its answers, in new memory; the reader; nothing else turned. -/
structure PutEnd (w w' : World) (B r p : Nat) (ao : Option Addr) (L : List (List UInt8 × Bool)) (s' : List UInt8) (la : Option Addr) (lc : Nat) (oa : Option Addr) (oc m : Nat) (ao' : Option Addr) (cap' : Nat) : Prop where
  rdr : RdrAt w' B r p ao' cap' s'
  ml : L.length = m
  ot : Own w' w.heap.size 9 1 la m lc (txts L)
  ob : Own w' w.heap.size 4 1 oa m oc (bols L)
  chg : Chg (fun k => k = p ∨ some k = blk ao) w w'
  old : ∀ k, some k = blk ao' → some k = blk ao ∨ w.heap.size ≤ k
  d1 : ∀ i, some i = blk la → some i ≠ blk ao'
  d2 : ∀ i, some i = blk oa → some i ≠ blk ao'
  d3 : ∀ i, some i = blk la → some i ≠ blk oa
theorem Put_rdr {w : World} {B r p b2 : Nat} {ao : Option Addr} {cap : Nat} {s : List UInt8} (h : RdrAt w B r p ao cap s) {a1 : Option Addr} {n c1 : Nat} {bs : List UInt8} (hr : Rd w b2 a1 n c1 bs)
    (hb2 : 0 < n → b2 ≠ p ∧ some b2 ≠ blk ao) (hn : n ≤ 1000000) {L : List (List UInt8 × Bool)} {s' : List UInt8} (hL : putB s bs = L) (hs : restB s bs = s') :
    Calls Tryz.prog 8 #[.pointer (some ⟨r, 0, none⟩), .slice a1 n c1] w fun e w' => ∃ la lc oa oc m ao' cap', e = .returned (.tuple #[.slice la m lc, .slice oa m oc, .int .i64 0]) ∧ PutEnd w w' B r p ao L s' la lc oa oc m ao' cap' := by
  subst hL; subst hs
  refine Calls.mono (Put_any h.hr h.st hr (fun hp => ⟨hr.lt hp, hb2 hp⟩) h.rp hn) ?_
  rintro e w' ⟨la, lc, oa, oc, ao', cap', rfl, hM⟩
  refine ⟨la, lc, oa, oc, _, ao', cap', rfl, ⟨⟨?_, hM.st, ⟨h.rp.1, fun e => ?_⟩, h.br⟩, rfl, hM.ot, hM.ob, hM.chg, hM.old, hM.d1, hM.d2, hM.d3⟩⟩
  · exact (hM.chg.block r h.lt (fun e => e.elim h.rp.1 h.rp.2)).trans h.hr
  · rcases hM.old r e with e' | e'
    · exact h.rp.2 e'
    · have := h.lt; omega
end Go.Proofs.YtjjppbfknjeddaaGreatDoor
