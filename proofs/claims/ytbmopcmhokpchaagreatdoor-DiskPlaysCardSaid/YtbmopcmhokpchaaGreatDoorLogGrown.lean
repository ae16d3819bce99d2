/- What stays where a block that holds no cells is turned. -/
import Derived.Test.YtbmopcmhokpchaaGreatDoorLogMem
import Derived.RangeFuncNested
import Derived.RangeFuncBound
import Derived.RangeFuncCalls
import Derived.RangeFuncLeaves
import Derived.Shelf.Abstract
import Derived.Shelf.RegionOpen
import Derived.WalkKit
import Derived.OwnWalkIn
import Derived.TacticsInMore
import Derived.LoopNIn
import Derived.LoopIn
namespace Go.Proofs.YtbmopcmhokpchaaGreatDoor
open Go.RowKit
set_option linter.unusedVariables false
/-- A block of cells is not turned where a block of another kind is. -/
theorem grown_cells {W W' : World} {row : Option Nat} (hg : W.grownBy W' row) (hr : ∀ r, row = some r → ∃ o : Obj, W.heap[r]? = some o ∧ o.isCells = false) {k : Nat} {cs : Array Value} {e : TypeId} {fr : Nat × Nat} (h : W.heap[k]? = some (.cells cs e fr)) : W'.heap[k]? = some (.cells cs e fr) := by
  refine (hg.block k (Array.getElem?_eq_some_iff.1 h).1 (fun e' => ?_)).trans h
  obtain ⟨o, h1, h2⟩ := hr k (by first | exact e'.symm | exact e')
  rw [h] at h1
  cases h1
  cases h2
theorem Own.grown {W W' : World} {row : Option Nat} {B : Nat} {e : TypeId} {sz : Nat} {ao : Option Addr} {n cap : Nat} {xs : List Value} (h : Own W B e sz ao n cap xs) (hg : W.grownBy W' row) (hr : ∀ r, row = some r → ∃ o : Obj, W.heap[r]? = some o ∧ o.isCells = false) : Own W' B e sz ao n cap xs := by
  obtain ⟨h1, h2, h3, h4, h5⟩ := h
  refine ⟨h1, h2, h3, h4, fun a ha => ?_⟩
  obtain ⟨g, cur, e1, e2, e3, e4, e5⟩ := h5 a ha
  exact ⟨g, cur, e1, e2, grown_cells hg hr e3, e4, e5⟩
theorem OwnZ.grown {W W' : World} {row : Option Nat} {B : Nat} {e : TypeId} {ao : Option Addr} {n cap : Nat} {xs : List Value} (h : OwnZ W B e ao n cap xs) (hg : W.grownBy W' row) (hr : ∀ r, row = some r → ∃ o : Obj, W.heap[r]? = some o ∧ o.isCells = false) : OwnZ W' B e ao n cap xs := h.imp (fun h => h.grown hg hr) id
theorem Recs.grown {W W' : World} {row : Option Nat} {B : Nat} {vs : List Value} {rs : List (List UInt8)} (h : Recs W B vs rs) (hg : W.grownBy W' row) (hr : ∀ r, row = some r → ∃ o : Obj, W.heap[r]? = some o ∧ o.isCells = false) : Recs W' B vs rs := by
  refine ⟨h.len, fun i r hi => ?_, h.apart⟩
  obtain ⟨a, c, h1, h2⟩ := h.at_ i r hi
  exact ⟨a, c, h1, h2.grown hg hr⟩
/-- What has turned no more than cells keeps the others. -/
theorem Chg.others {S : Nat → Prop} {w w' : World} (h : Chg S w w') (hS : ∀ k, S k → ∃ cs e fr, w.heap[k]? = some (.cells cs e fr)) : KeepsOthers w w' := by
  refine ⟨h.size, fun k o hk ho => ?_⟩
  refine (h.block k (Array.getElem?_eq_some_iff.1 hk).1 (fun hs => ?_)).trans hk
  obtain ⟨cs, e, fr, h1⟩ := hS k hs
  rw [hk] at h1
  cases h1
  cases ho
theorem Chg.grownBy {w w' : World} (h : Chg Non w w') : w.grownBy w' none := ⟨h.os, h.tape, h.output, h.size, fun k hk _ => h.block k hk (fun h => h)⟩
end Go.Proofs.YtbmopcmhokpchaaGreatDoor
