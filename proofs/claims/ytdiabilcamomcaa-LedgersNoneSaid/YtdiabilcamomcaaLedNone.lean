/- A ledger that is not there, or that no call made: it answers nothing. -/
import Derived.Test.YtdiabilcamomcaaRows
import Derived.Test.YtdiabilcamomcaaLib
import Derived.WalkLawsBesides
import Derived.WalkSpells
namespace Go.Proofs.Ytdiabilcamomcaa
open Go.RowKit
set_option linter.unusedVariables false
/-- No ledger: nil, or one that no call made. -/
def NoLed (w : World) (v : Value) : Prop := v = .pointer none ∨ ∃ p, v = .pointer (some ⟨p, 0, none⟩) ∧ w.heap[p]? = some (.cells #[.map none] 25 (0, 0))
theorem there_none {w : World} {v : Value} (h : NoLed w v) : Calls Try.prog 25 #[v] w fun e w' => e = .returned (.bool false) ∧ w = w' := by
  have hm := fun (w : World) (r : Option Nat) => run_neq_map_nil (P := Try.prog) w 23 3 58 r Try.underlying23
  rcases h with rfl | ⟨p, rfl, hp⟩
  · go_enter Try.func25, Try.ntmps25
    go_wp2
    go_ret
    exact ⟨rfl, rfl⟩
  · have c0 : w.cell? ⟨p, 0, none⟩ = some (.map none) := by rw [cell_of_row w p 0 _ _ _ hp]; rfl
    clear hp
    go_enter Try.func25, Try.ntmps25
    go_wp2
    go_ret
    exact ⟨rfl, rfl⟩
theorem Left_none {w : World} {v : Value} (h : NoLed w v) (t : Int) : Calls Try.prog 10 #[v, .int .i64 t] w fun e w' => e = .returned (.tuple #[.int .i64 0, .int .i64 2]) ∧ w = w' := by
  have H := Lib.hid h; clear h
  go_enter Try.func10, Try.ntmps10
  go_wp2_with (go_at_call 25; refine Calls.mono (there_none H.out) ?_; rintro e w' ⟨rfl, rfl⟩)
  go_ret2
  exact ⟨rfl, rfl⟩
theorem Tick_none {w : World} {v : Value} (h : NoLed w v) : Calls Try.prog 11 #[v] w fun e w' => e = .returned (.int .i64 2) ∧ w = w' := by
  have H := Lib.hid h; clear h
  go_enter Try.func11, Try.ntmps11
  go_wp2_with (go_at_call 25; refine Calls.mono (there_none H.out) ?_; rintro e w' ⟨rfl, rfl⟩)
  go_ret
  exact ⟨rfl, rfl⟩
theorem Spend_none {w : World} {v : Value} (h : NoLed w v) (t n : Int) : Calls Try.prog 12 #[v, .int .i64 t, .int .i64 n] w fun e w' => e = .returned (.int .i64 2) ∧ w = w' := by
  have H := Lib.hid h; clear h
  go_enter Try.func12, Try.ntmps12
  go_wp2_with (go_at_call 25; refine Calls.mono (there_none H.out) ?_; rintro e w' ⟨rfl, rfl⟩)
  go_ret
  exact ⟨rfl, rfl⟩
def zeroTen : Value := .agg #[.string { data := #[] }, .string { data := #[] }, .int .i64 0]
set_option maxRecDepth 20000 in
theorem Find_none {w : World} {v : Value} (h : NoLed w v) (s : ByteArray) : Calls Try.prog 9 #[v, .string s] w fun e w' => e = .returned (.tuple #[zeroTen, .int .i64 0, .int .i64 2]) ∧ Chg Non w w' := by
  have h' : ∀ o, NoLed (w.alloc o) v := by
    rcases h with rfl | ⟨p, rfl, hp⟩
    · exact fun o => .inl rfl
    · exact fun o => .inr ⟨p, rfl, by rw [((Chg.refl Non w).alloc o).block p (Array.getElem?_eq_some_iff.1 hp).1 (fun h => h)]; exact hp⟩
  have H := Lib.hid h'; clear h h'
  go_enter Try.func9, Try.ntmps9
  go_wp2_with (go_at_call 25; refine Calls.mono (there_none (H.out _)) ?_; rintro e w' ⟨rfl, rfl⟩)
  go_returns
  exact ⟨rfl, (Chg.refl _ _).alloc _⟩
set_option maxHeartbeats 1000000 in
set_option maxRecDepth 20000 in
theorem LedgersNone_any {w : World} {s : ByteArray} (hs : s.size ≤ maxLen) {t n : Int} (ht : (Lit.int .i64 t).wf = true) (hn : (Lit.int .i64 n).wf = true) :
    Calls Try.prog 3 #[.string s, .int .i64 t, .int .i64 n] w fun e w' => e = .returned (.bool true) ∧ Below w.heap.size w w' := by
  clear hs ht hn
  go_enter Try.func3, Try.ntmps3
  go_wp2_with fail
  obtain ⟨w0, hw0⟩ : ∃ w0, w0 = (w.alloc (.cells #[.map none] 25)).alloc (.cells #[.pointer none, .pointer (some ⟨w.heap.size, 0, none⟩)] 22) := ⟨_, rfl⟩
  have hC : Chg Non w w0 := by rw [hw0]; exact ((Chg.refl _ _).alloc _).alloc _
  have hL : w0.heap[w.heap.size]? = some (.cells #[.map none] 25 (0, 0)) := by rw [hw0]; exact heap_alloc2_old w _ _
  have hl : w0.heap[w.heap.size + 1]? = some (.cells #[.pointer none, .pointer (some ⟨w.heap.size, 0, none⟩)] 22 (0, 0)) := by rw [hw0]; exact heap_alloc2_new w _ _
  have hz : w0.heap.size = w.heap.size + 2 := by rw [hw0]; simp
  have hv : ∀ k, k < 2 → ∃ v, (∀ w', Chg Non w0 w' → w'.cell? ⟨w.heap.size + 1, k, none⟩ = some v) ∧ ∀ w', Chg Non w0 w' → NoLed w' v := by
    intro k hk
    have hcell : ∀ w', Chg Non w0 w' → w'.heap[w.heap.size + 1]? = some (.cells #[.pointer none, .pointer (some ⟨w.heap.size, 0, none⟩)] 22 (0, 0)) := fun w' h => by rw [h.block _ (by omega) (fun h => h)]; exact hl
    have hblk : ∀ w', Chg Non w0 w' → w'.heap[w.heap.size]? = some (.cells #[.map none] 25 (0, 0)) := fun w' h => by rw [h.block _ (by omega) (fun h => h)]; exact hL
    match k, hk with
    | 0, _ => exact ⟨.pointer none, fun w' h => by rw [cell_of_row w' _ 0 _ _ _ (hcell w' h)]; rfl, fun w' h => .inl rfl⟩
    | 1, _ => exact ⟨.pointer (some ⟨w.heap.size, 0, none⟩), fun w' h => by rw [cell_of_row w' _ 1 _ _ _ (hcell w' h)]; rfl, fun w' h => .inr ⟨_, rfl, hblk w' h⟩⟩
  have HV := Lib.hid hv; clear hv
  have HC := Lib.hid hC; clear hC hL hl
  have HZ := Lib.hid hz; clear hz
  rw [← hw0]
  clear hw0
  go_loopw [8] (fun i wr => ∃ k : Nat, k ≤ 2 ∧ i = .int .i64 k ∧ Chg Non w0 wr) (fun i _ => 2 - (intOf i).toNat)
  case atStart => exact ⟨0, by omega, rfl, Chg.refl _ _⟩
  case round =>
    obtain ⟨k, hk, rfl, hc⟩ := hrel
    by_cases hlt : k < 2
    · obtain ⟨v, hv, hn⟩ := HV.out k hlt
      have HN := Lib.hid hn; clear hn
      go_wp2_with fail
      refine Calls.mono (Find_none (HN.out _ hc) s) ?_
      rintro e w1 ⟨rfl, hc1⟩
      have hcc := hc.trans hc1
      clear hc1
      unfold zeroTen
      have hN := fun o => HN.out _ (Chg.alloc hcc o)
      have HN2 := Lib.hid hN; clear hN
      go_wp2_with (first | (go_at_call 10; refine Calls.mono (Left_none (HN2.out _) t) ?_; rintro e w' ⟨rfl, rfl⟩) | (go_at_call 11; refine Calls.mono (Tick_none (HN2.out _)) ?_; rintro e w' ⟨rfl, rfl⟩) | (go_at_call 12; refine Calls.mono (Spend_none (HN2.out _) t n) ?_; rintro e w' ⟨rfl, rfl⟩))
      go_roundw
      case rel => exact ⟨k + 1, by omega, by go_num, hcc.alloc _⟩
      case measure => simp [intOf]; omega
    · go_wp2_with fail
      go_ret
      exact ⟨rfl, (HC.out.trans hc).belowN⟩
end Go.Proofs.Ytdiabilcamomcaa
