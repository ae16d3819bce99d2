/- A tick, and looking for a tenant: each steps over all accounts, in whatever order. -/
import Derived.Test.YtdiabilcamomcaaLedCalls
namespace Go.Proofs.Ytdiabilcamomcaa
open Go.RowKit
set_option linter.unusedVariables false
variable {w w' : World} {p m : Nat} {A : List Nat} {T : List Ten} {L : Nat → Int}
/-- What is left when the accounts told have been ticked. -/
def ticked (T : List Ten) (L : Nat → Int) (seen : Array Nat) (j : Nat) : Int := if seen.contains j then (nth T j).rate else L j
/-- The loop over a ledger's map stands in world wr, its iterator in block r. -/
structure Iter (wr : World) (r m : Nat) (A : List Nat) (seen : Array Nat) : Prop where
  at_ : ∃ c0, wr.heap[r]? = some (.mapIter (some m) A.length seen c0) ∧ A.length ≤ c0
theorem Iter.seen {wr : World} {r : Nat} {seen : Array Nat} (h : Iter wr r m A seen) : wr.iterSeen r = seen := by
  obtain ⟨c0, h, _⟩ := h
  unfold World.iterSeen
  rw [h]
theorem Chg.setIter {S : Nat → Prop} {a w : World} (h : Chg S a w) {r : Nat} (hr : a.heap.size ≤ r) (o : Obj) : Chg S a (ChangeMaps.setBlock w r o) :=
  ⟨h.os, h.tape, h.output, by simpa [ChangeMaps.setBlock] using h.size, fun k hk hn => by
    have : (ChangeMaps.setBlock w r o).heap[k]? = w.heap[k]? := by
      show (w.heap.setIfInBounds r o)[k]? = _
      rw [Array.getElem?_setIfInBounds, if_neg (by omega)]
    exact this.trans (h.block k hk hn)⟩
set_option maxRecDepth 20000 in
theorem Tick_yes (h : LedAt w p m A T L) : Calls Try.prog 11 #[.pointer (some ⟨p, 0, none⟩)] w fun e w' => e = .returned (.int .i64 0) ∧
    LedAt w' p m A T (fun j => (nth T j).rate) ∧ Chg (fun k => ∃ j, j < A.length ∧ k = adr A j) w w' := by
  have c0 := h.cell
  have hr := run_range_map (P := Try.prog) w 23 3 58 m _ _ Try.underlying23 h.map
  have h0 : LedAt (w.alloc (.mapIter (some m) A.length #[] A.length)) p m A T (ticked T L #[]) := (h.non ((Chg.refl _ _).alloc _)).congr fun j hj => by simp [ticked]
  have h1 : Iter (w.alloc (.mapIter (some m) A.length #[] A.length)) w.heap.size m A #[] := ⟨A.length, heap_alloc_new w _, Nat.le_refl _⟩
  have H0 := Lib.hid h0; clear h0
  have H1 := Lib.hid h1; clear h1
  have H := Lib.hid h; clear h
  go_enter Try.func11, Try.ntmps11
  go_wp2_with (go_at_call 25; refine Calls.mono (there_yes c0) ?_; rintro e w' ⟨rfl, rfl⟩)
  go_loopw [] (fun wr => ∃ seen, Iter wr w.heap.size m A seen ∧ LedAt wr p m A T (ticked T L seen) ∧ Chg (fun k => ∃ j, j < A.length ∧ k = adr A j) w wr) (fun wr => (leftOf (ient 0 A).toArray (wr.iterSeen w.heap.size)).size)
  case atStart => exact ⟨#[], H1.out, H0.out, (Chg.refl _ _).alloc _⟩
  case round =>
    obtain ⟨seen, hi, hl, hc⟩ := hrel
    have hseen := hi.seen
    obtain ⟨ca, hr1, hca⟩ := hi.at_
    rcases run_next_place (P := Try.prog) (w := wr) 0 hr1 hl.map hca with ⟨hall, hn⟩ | ⟨j, hj, hs, w1, hw1, hlt, hn, he⟩
    · have HL := Lib.hid hl; clear hl
      have HC := Lib.hid hc; clear hc hr1 hca hi hseen
      have HA := Lib.hid hall; clear hall
      go_wp2_with fail
      go_ret
      exact ⟨rfl, HL.out.congr fun j hj => by rw [ticked, if_pos (HA.out j hj)], HC.out⟩
    · have hr0 : adr A j < w.heap.size := H.out.lt (.inr (.inr ⟨j, hj, rfl⟩))
      obtain ⟨w2, hw2⟩ : ∃ w2, w2 = ChangeMaps.setBlock w1 w.heap.size (.mapIter (some m) A.length (seen.push j) A.length) := ⟨_, rfl⟩
      have hne : ∀ k, ledBlk p m A k → k ≠ w.heap.size := fun k hk => Nat.ne_of_lt (H.out.lt hk)
      have hw2h : ∀ k, k ≠ w.heap.size → w2.heap[k]? = wr.heap[k]? := by
        intro k hk
        have e1 : w1.heap = wr.heap := by rcases hw1 with rfl | rfl <;> rfl
        rw [hw2]
        show (w1.heap.setIfInBounds w.heap.size _)[k]? = _
        rw [Array.getElem?_setIfInBounds, if_neg (fun e => hk e.symm), e1]
      have hl2 : LedAt w2 p m A T (ticked T L seen) := hl.same fun k hk => hw2h k (hne k hk)
      have hc2 : Chg (fun k => ∃ j, j < A.length ∧ k = adr A j) w w2 := by
        rw [hw2]
        refine Chg.setIter ?_ (Nat.le_refl _) _
        rcases hw1 with rfl | rfl
        · exact hc
        · exact hc.drew
      have hi2 : w2.heap[w.heap.size]? = some (.mapIter (some m) A.length (seen.push j) A.length) := by
        have e1 : w1.heap[w.heap.size]? = some (.mapIter (some m) A.length seen ca) := by rcases hw1 with rfl | rfl <;> exact hr1
        rw [hw2]
        exact (MapKept.heap_set e1).1
      rw [← hw2] at hn he
      unfold ptr at hn he
      obtain ⟨_, _, q2, _, f3⟩ := hl2.cells hj
      have hset := hl2.set hj (nth T j).rate
      have hiter : Iter (w2.setCell ⟨adr A j, 3, none⟩ (.int .i64 (nth T j).rate)) w.heap.size m A (seen.push j) := ⟨A.length, (Below.heap_setCell _ _ _ _ (by show w.heap.size ≠ adr A j; omega)).trans hi2, Nat.le_refl _⟩
      have hupd : ∀ i, i < A.length → ticked T L (seen.push j) i = upd (ticked T L seen) j (nth T j).rate i := by
        intro i _
        unfold ticked upd
        rw [contains_push]
        by_cases e : i = j
        · subst e; simp
        · simp [e]
      have hfin : LedAt (w2.setCell ⟨adr A j, 3, none⟩ (.int .i64 (nth T j).rate)) p m A T (ticked T L (seen.push j)) := hset.congr hupd
      have hcf : Chg (fun k => ∃ j, j < A.length ∧ k = adr A j) w (w2.setCell ⟨adr A j, 3, none⟩ (.int .i64 (nth T j).rate)) := hc2.setCell (.inr ⟨j, hj, rfl⟩) _
      have HI := Lib.hid hiter; have HF := Lib.hid hfin; have HC := Lib.hid hcf; have HLT := Lib.hid hlt; have HSE := Lib.hid hseen
      have HJ := Lib.hid hj
      clear hi hl hc hr1 hca hw1 hlt hne hw2h hl2 hc2 hi2 hset hupd hfin hcf hiter hw2 hseen hs hr0 hj
      go_wp2_with fail
      go_roundw
      case rel => exact ⟨_, HI.out, HF.out, HC.out⟩
      case measure => rw [HI.out.seen, HSE.out]; exact HLT.out
end Go.Proofs.Ytdiabilcamomcaa
