/- DiskJoins, walked. -/
import Derived.Test.YtbmopcmhokpchaaGreatDoorDiskLives
import Derived.Deep.DeepCutAuto
import Derived.Deep.CutBlock
namespace Go.Proofs.YtbmopcmhokpchaaGreatDoor
open Go.RowKit
set_option linter.unusedVariables false
attribute [local go_sem ↓] Go.wp_at_zero Go.wp_at_succ
theorem Rd.cut {w : World} {b o n c : Nat} {bs : List UInt8} (h : Rd w b (some ⟨b, o, none⟩) n c bs) {i L : Nat} (hi : i < n) (hL : i + L ≤ n) : Rd w b (some ⟨b, o + i, none⟩) L (c - i) ((bs.drop i).take L) := by
  obtain ⟨h1, h2, h3, h4, h5⟩ := h
  obtain ⟨off, ho, hc⟩ := h5 (by omega)
  simp only [Option.some.injEq, Addr.mk.injEq, true_and, and_true] at ho
  subst ho
  refine ⟨by simp; omega, by omega, by omega, (fun h => by cases h), fun _ => ⟨o + i, rfl, fun j hj => ?_⟩⟩
  rw [Nat.add_assoc, hc (i + j) (by omega)]
  have e : ((bs.drop i).take L)[j]? = bs[i + j]? := by
    rw [List.getElem?_take, if_pos hj, List.getElem?_drop]
  simp only [List.getD, e]
theorem Append_either {w : World} {B p : Nat} {ao : Option Addr} {cap size sure : Nat} {bs : List UInt8} (h : DiskAt w B p ao cap size sure bs) {b2 : Nat} {a2 : Option Addr} {n c2 : Nat} {cs : List UInt8} (hr : Rd w b2 a2 n c2 cs) :
    Calls Tryz.prog 15 #[.pointer (some ⟨p, 0, none⟩), .slice a2 n c2] w fun e w' => ∃ f : Int, e = .returned (.int .i64 f) ∧
      ((bs.length + n ≤ size ∧ f = 0 ∧ ∃ ao' cap', DiskAt w' B p ao' cap' size sure (bs ++ cs) ∧ Chg (fun k => k = p ∨ some k = blk ao) w w') ∨ (size < bs.length + n ∧ f = 7 ∧ DiskAt w' B p ao cap size sure bs ∧ Chg Non w w')) := by
  by_cases hn : bs.length + n ≤ size
  · refine Calls.mono (Append_yes h hr hn) ?_
    rintro e w' ⟨rfl, ao', cap', h1, h2, _⟩
    exact ⟨0, rfl, .inl ⟨hn, rfl, ao', cap', h1, h2⟩⟩
  · refine Calls.mono (Append_no h (by omega) (Nat.le_trans hr.2.1 hr.2.2.1)) ?_
    rintro e w' ⟨rfl, q, rfl⟩
    exact ⟨7, rfl, .inr ⟨by omega, rfl, h.drewN q, (Chg.refl _ _).drewN q⟩⟩
theorem Rd.take {w : World} {b : Nat} {ao : Option Addr} {n c : Nat} {bs : List UInt8} (h : Rd w b ao n c bs) {k : Nat} (hk : k ≤ n) : Rd w b ao k c (bs.take k) := by
  obtain ⟨h1, h2, h3, h4, h5⟩ := h
  refine ⟨by simp; omega, by omega, h3, h4, fun hp => ?_⟩
  obtain ⟨off, ho, hc⟩ := h5 hp
  refine ⟨off, ho, fun j hj => ?_⟩
  rw [hc j (by omega)]
  simp only [List.getD, List.getElem?_take, if_pos hj]
theorem Bytes_of {w : World} {B p : Nat} {ao : Option Addr} {cap size sure : Nat} {bs : List UInt8} (h : DiskAt w B p ao cap size sure bs) {n : Nat} (hn : bs.length = n) :
    Calls Tryz.prog 18 #[.pointer (some ⟨p, 0, none⟩)] w fun e w' => e = .returned (.slice (some ⟨w.heap.size, 0, none⟩) n n) ∧ Own w' w.heap.size 5 1 (some ⟨w.heap.size, 0, none⟩) n n (bs.map bv) ∧ Chg Non w w' := by
  subst hn; exact Bytes_any h
theorem Sure_of {w : World} {B p : Nat} {ao : Option Addr} {cap size sure : Nat} {bs : List UInt8} (h : DiskAt w B p ao cap size sure bs) {S : Int} (hS : S = (sure : Int)) :
    Calls Tryz.prog 19 #[.pointer (some ⟨p, 0, none⟩)] w fun e w' => e = .returned (.int .i64 S) ∧ w = w' := by
  subst hS; exact Sure_any h
theorem SameBytes_yes {w : World} {b1 b2 : Nat} {a1 a2 : Option Addr} {n1 c1 n2 c2 : Nat} {bs : List UInt8} (h1 : Rd w b1 a1 n1 c1 bs) (h2 : Rd w b2 a2 n2 c2 bs) :
    Calls Tryz.prog 10 #[.slice a1 n1 c1, .slice a2 n2 c2] w fun e w' => e = .returned (.bool true) ∧ ∃ q, w' = w.drewN q := by
  refine Calls.mono (SameBytes_any h1 h2) ?_
  rintro e w' ⟨rfl, h⟩
  exact ⟨by simp, h⟩
end Go.Proofs.YtbmopcmhokpchaaGreatDoor
