/- Looking for a tenant by its name: over all accounts, in whatever order. -/
import Derived.Test.YtdiabilcamomcaaLedTick
namespace Go.Proofs.Ytdiabilcamomcaa
open Go.RowKit
set_option linter.unusedVariables false
variable {w w' : World} {p m : Nat} {A : List Nat} {T : List Ten} {L : Nat → Int}
theorem bytes_eq_list {a b : ByteArray} : (a.toList == b.toList) = true ↔ a = b := by
  rw [← beq_toListBytes]; exact MapKept.bytes_beq a b
theorem bytes_ne_list {a b : ByteArray} (h : a ≠ b) : (a.toList == b.toList) = false := by
  rw [Bool.eq_false_iff]; exact fun e => h (bytes_eq_list.1 e)
theorem res_cells {w : World} {g : Nat} {a b c : Value} {t : TypeId} (h : w.heap[g]? = some (.cells #[a, b, c] t (0, 0))) : w.cell? ⟨g, 0, none⟩ = some a ∧ w.cell? ⟨g, 1, none⟩ = some b ∧ w.cell? ⟨g, 2, none⟩ = some c ∧
    w.frozen? ⟨g, 0, none⟩ = false ∧ w.frozen? ⟨g, 1, none⟩ = false ∧ w.frozen? ⟨g, 2, none⟩ = false := by
  refine ⟨?_, ?_, ?_, frozen_of_row w _ _ _ _ h, frozen_of_row w _ _ _ _ h, frozen_of_row w _ _ _ _ h⟩ <;> (rw [cell_of_row w _ _ _ _ _ h]; rfl)
set_option maxRecDepth 20000 in
theorem Find_yes (h : LedAt w p m A T L) (s : ByteArray) : Calls Try.prog 9 #[.pointer (some ⟨p, 0, none⟩), .string s] w fun e w' => Chg Non w w' ∧
    ((∃ j, j < A.length ∧ (nth T j).name = s ∧ e = .returned (.tuple #[(nth T j).val, .int .i64 (j : Int), .int .i64 0])) ∨ ((∀ j, j < A.length → (nth T j).name ≠ s) ∧ e = .returned (.tuple #[tz.val, .int .i64 0, .int .i64 6]))) := by
  obtain ⟨wa, hwa⟩ : ∃ wa, wa = w.alloc (.cells #[.string { data := #[] }, .string { data := #[] }, .int .i64 0] 28) := ⟨_, rfl⟩
  have hca : Chg Non w wa := by rw [hwa]; exact (Chg.refl _ _).alloc _
  have hsz : wa.heap.size = w.heap.size + 1 := by rw [hwa]; simp
  have hres : wa.heap[w.heap.size]? = some (.cells #[.string { data := #[] }, .string { data := #[] }, .int .i64 0] 28 (0, 0)) := by rw [hwa]; exact heap_alloc_new w _
  have ha := h.non hca
  have c0 := ha.cell
  have hr := run_range_map (P := Try.prog) wa 23 3 58 m _ _ Try.underlying23 ha.map
  have h0 : Chg Non wa (wa.alloc (.mapIter (some m) A.length #[] A.length)) := (Chg.refl _ _).alloc _
  have h1 : Iter (wa.alloc (.mapIter (some m) A.length #[] A.length)) wa.heap.size m A #[] := ⟨A.length, heap_alloc_new wa _, Nat.le_refl _⟩
  have H0 := Lib.hid h0; clear h0
  have H1 := Lib.hid h1; clear h1
  have HA := Lib.hid ha; clear ha h
  have HS := Lib.hid hsz; clear hsz
  have HR := Lib.hid hres; clear hres
  have HC := Lib.hid hca; clear hca
  go_enter Try.func9, Try.ntmps9
  have HW := Lib.hid hwa
  go_wp2_with (go_at_call 25; rw [← HW.out]; clear hwa HW; refine Calls.mono (there_yes c0) ?_; rintro e w' ⟨rfl, rfl⟩)
  go_loopw [] (fun wr => ∃ seen, Iter wr wa.heap.size m A seen ∧ (∀ j, seen.contains j = true → (nth T j).name ≠ s) ∧ Chg Non wa wr) (fun wr => (leftOf (ient 0 A).toArray (wr.iterSeen wa.heap.size)).size)
  case atStart => exact ⟨#[], H1.out, by simp, H0.out⟩
  case round =>
    obtain ⟨seen, hi, hno, hc⟩ := hrel
    have hseen := hi.seen
    obtain ⟨ca, hr1, hca⟩ := hi.at_
    have hl := HA.out.non hc
    have hres : wr.heap[w.heap.size]? = some (.cells #[.string { data := #[] }, .string { data := #[] }, .int .i64 0] 28 (0, 0)) := by
      rw [hc.block _ (by have := HS.out; omega) (fun h => h)]; exact HR.out
    rcases run_next_place (P := Try.prog) (w := wr) 0 hr1 hl.map hca with ⟨hall, hn⟩ | ⟨j, hj, hs, w1, hw1, hlt, hn, he⟩
    · obtain ⟨r0, r1, r2, f0, f1, f2⟩ := res_cells hres
      have HL := Lib.hid hl; clear hl hres
      have HC2 := Lib.hid hc; clear hc hr1 hca hi hseen
      have HN := Lib.hid hno; clear hno
      have HAL := Lib.hid hall; clear hall
      go_wp2_with fail
      try simp only [Exit.inBlock, Exit.then]
      refine bodyPost_ret (by simp [results, Try.results9, go_sem, r0, r1, r2]; try rfl) rfl ?_
      exact ⟨(((HC.out.trans HC2.out).setCell (.inl (Nat.le_refl _)) _).setCell (.inl (Nat.le_refl _)) _).setCell (.inl (Nat.le_refl _)) _, .inr ⟨fun j hj => HN.out j (HAL.out j hj), rfl⟩⟩
    · have hr0 : adr A j < wa.heap.size := HA.out.lt (.inr (.inr ⟨j, hj, rfl⟩))
      obtain ⟨w2, hw2⟩ : ∃ w2, w2 = ChangeMaps.setBlock w1 wa.heap.size (.mapIter (some m) A.length (seen.push j) A.length) := ⟨_, rfl⟩
      have hw2h : ∀ k, k ≠ wa.heap.size → w2.heap[k]? = wr.heap[k]? := by
        intro k hk
        have e1 : w1.heap = wr.heap := by rcases hw1 with rfl | rfl <;> rfl
        rw [hw2]
        show (w1.heap.setIfInBounds wa.heap.size _)[k]? = _
        rw [Array.getElem?_setIfInBounds, if_neg (fun e => hk e.symm), e1]
      have hl2 : LedAt w2 p m A T L := hl.same fun k hk => hw2h k (Nat.ne_of_lt (HA.out.lt hk))
      have hres2 := (hw2h w.heap.size (by have := HS.out; omega)).trans hres
      have hc2 : Chg Non wa w2 := by
        rw [hw2]
        refine Chg.setIter ?_ (Nat.le_refl _) _
        rcases hw1 with rfl | rfl
        · exact hc
        · exact hc.drew
      have hi2 : w2.heap[wa.heap.size]? = some (.mapIter (some m) A.length (seen.push j) A.length) := by
        have e1 : w1.heap[wa.heap.size]? = some (.mapIter (some m) A.length seen ca) := by rcases hw1 with rfl | rfl <;> exact hr1
        rw [hw2]
        exact (MapKept.heap_set e1).1
      rw [← hw2] at hn he
      unfold ptr at hn he
      obtain ⟨q0, q1, q2, _, _⟩ := hl2.cells hj
      obtain ⟨r0, r1, r2, f0, f1, f2⟩ := res_cells hres2
      clear hres2
      have hiter : Iter w2 wa.heap.size m A (seen.push j) := ⟨A.length, hi2, Nat.le_refl _⟩
      have HI := Lib.hid hiter; have HC2 := Lib.hid hc2; have HLT := Lib.hid hlt; have HSE := Lib.hid hseen
      have HJ := Lib.hid hj; have HNO := Lib.hid hno
      clear hi hl hc hr1 hca hw1 hlt hw2h hl2 hc2 hi2 hiter hw2 hseen hs hr0 hj hno hres
      by_cases hnm : (nth T j).name = s
      · have hq := bytes_eq_list.2 hnm
        have HNM := Lib.hid hnm; clear hnm
        go_wp2_with fail
        try simp only [Exit.inBlock, Exit.then]
        refine bodyPost_ret (by simp [results, Try.results9, go_sem, r0, r1, r2]; try rfl) rfl ?_
        exact ⟨(((HC.out.trans HC2.out).setCell (.inl (Nat.le_refl _)) _).setCell (.inl (Nat.le_refl _)) _).setCell (.inl (Nat.le_refl _)) _, .inl ⟨j, HJ.out, HNM.out, rfl⟩⟩
      · have hq := bytes_ne_list hnm
        have HNM := Lib.hid hnm; clear hnm
        go_wp2_with fail
        go_roundw
        case rel => 
          refine ⟨_, HI.out, fun i hi => ?_, HC2.out⟩
          rw [contains_push] at hi
          by_cases e : i = j
          · subst e; exact HNM.out
          · exact HNO.out i (by simpa [e] using hi)
        case measure => rw [HI.out.seen, HSE.out]; exact HLT.out
end Go.Proofs.Ytdiabilcamomcaa
