/- A twin of tenants: new memory, one spare tenant behind the last. -/
import Derived.Test.YtdiabilcamomcaaLedMade
namespace Go.Proofs.Ytdiabilcamomcaa
open Go.RowKit
set_option linter.unusedVariables false
set_option linter.unusedSimpArgs false
variable {w w' : World} {n cap : Nat} {ao : Option Addr} {T : List Ten}
def tcells (x : Ten) : List Value := [.string x.name, .string x.key, .int .i64 x.rate]
/-- All cells of tenants. -/
def tcs (T : List Ten) : List Value := T.flatMap tcells
def spare : Ten := ⟨{ data := #[115, 112, 97, 114, 101] }, { data := #[] }, 0⟩
theorem tcs_length (T : List Ten) : (tcs T).length = T.length * 3 := by
  induction T with
  | nil => rfl
  | cons x T ih => simp [tcs, tcells] at ih ⊢; omega
theorem tcs_succ {k : Nat} (hk : k < T.length) : tcs (T.take (k + 1)) = tcs (T.take k) ++ tcells (nth T k) := by
  have e : nth T k = T[k] := by simp [nth, List.getD, hk]
  unfold tcs
  rw [List.take_succ_eq_append_getElem hk, e, List.flatMap_append]
  simp only [List.flatMap_cons, List.flatMap_nil, List.append_nil]
set_option maxHeartbeats 400000 in
set_option maxRecDepth 20000 in
theorem TwinTenants_any (h : Tens w ao n cap T) (hn : n ≤ 100) : Calls Try.prog 14 #[.slice ao n cap] w fun e w' =>
    ∃ g c, e = .returned (.slice (some ⟨g, 0, none⟩) n c) ∧ Own w' w.heap.size 28 3 (some ⟨g, 0, none⟩) (n + 1) c (tcs T ++ tcells spare) ∧ Chg Non w w' := by
  have hcap := h.2.2.1
  have hlc := h.2.1
  unfold maxLen at hcap
  have HT := Lib.hid h; clear h
  obtain ⟨i0, hi, hz0, hz1, hz2⟩ := info_parts Try.info_ten
  have Hi := Lib.hid hi; clear hi
  have Hz0 := Lib.hid hz0; clear hz0
  have Hz1 := Lib.hid hz1; clear hz1
  have Hz2 := Lib.hid hz2; clear hz2
  go_enter Try.func14, Try.ntmps14
  go_wp2_with (at_make; refine wpList_make_any rfl _ _ 37 rfl 28 i0 _ 3 40 Try.underlying37 Hi.out Hz0.out Hz1.out Hz2.out _ _ _ _ 0 (n + 1) rfl rfl rfl (by omega) (by omega) (by omega) (by unfold maxLen; omega) ?_)
  go_loopw [4, 3] (fun i t wr => ∃ k c : Nat, ∃ ad, k ≤ n ∧ i = .int .i64 k ∧ t = .slice ad k c ∧ Own wr w.heap.size 28 3 ad k c (tcs (T.take k)) ∧ Chg Non w wr) (fun i _ _ => n - (intOf i).toNat)
  case atStart =>
    refine ⟨0, n + 1, _, by omega, rfl, rfl, ?_, (Chg.refl _ _).alloc _⟩
    have h0 := Own.of_block (n := 0) (cap := n + 1) (sz := 3) (heap_alloc_new w (.cells (madeCells #[.string { data := #[] }, .string { data := #[] }, .int .i64 0] ((n + 1) * 3)) 28)) (Nat.le_refl _) (by omega) (by unfold maxLen; omega) (by simp [size_madeCells])
    simpa [tcs] using h0
  case round =>
    obtain ⟨k, c, ad, hk, rfl, rfl, hown, hchg⟩ := hrel
    have hsz := hchg.size
    by_cases hlt : k < n
    · obtain ⟨b, off, rfl, hb, hcell⟩ := HT.out.2.2.2.2 (by omega)
      obtain ⟨c0, c1, c2⟩ := (hcell k hlt).chg hchg hb (fun h => h)
      clear hcell
      go_wp2_with (at_builtin; refine wpList_append_Own rfl _ _ 37 37 rfl w.heap.size 28 3 40 i0 _ Try.underlying37 Hi.out Hz0.out Hz1.out rfl Hz2.out ad k c _ rfl (hown.alloc _) _ 1 _ rfl (Src.cells Try.underlying37 (heap_alloc_new _ _) 1 3 1 (by rfl) (by simp [Value.oneCell'])) (by unfold maxLen; omega) (by omega) (by simp; omega) ?_)
      intro ao' cap' w1 hown1 hchg1 _ _
      have hown2 : Own w1 w.heap.size 28 3 ao' (k + 1) cap' (tcs (T.take (k + 1))) := by
        rw [tcs_succ (by have := HT.out.1; omega)]; exact hown1
      have hchg2 : Chg Non w w1 := (hchg.alloc _).next hchg1 (fun j hj h => by have := (hown.lt j h.1).1; omega)
      clear hown1 hchg1 hown hchg
      go_wp2_with fail
      go_roundw
      case rel => exact ⟨k + 1, cap', ao', by omega, by go_num, rfl, hown2, hchg2⟩
      case measure => simp [intOf]; omega
    · obtain rfl : k = n := by omega
      go_wp2_with (at_builtin; refine wpList_append_Own rfl _ _ 37 37 rfl w.heap.size 28 3 40 i0 _ Try.underlying37 Hi.out Hz0.out Hz1.out rfl Hz2.out ad k c _ rfl (hown.alloc _) _ 1 _ rfl (Src.cells Try.underlying37 (heap_alloc_new _ _) 1 3 1 (by rfl) (by simp [Value.oneCell'])) (by unfold maxLen; omega) (by omega) (by simp; omega) ?_)
      intro ao' cap' w1 hown1 hchg1 _ _
      have hown2 : Own w1 w.heap.size 28 3 ao' (k + 1) cap' (tcs T ++ tcells spare) := by
        have h := hown1
        rw [List.take_of_length_le (by have := HT.out.1; omega)] at h
        exact h
      have hchg2 : Chg Non w w1 := (hchg.alloc _).next hchg1 (fun j hj h => by have := (hown.lt j h.1).1; omega)
      have hle := hown2.le
      obtain ⟨g, rfl, _⟩ := hown2.form (by omega)
      clear hown1 hchg1 hown hchg
      go_wp2_with fail
      go_ret
      exact ⟨g, cap', rfl, hown2, hchg2⟩
end Go.Proofs.Ytdiabilcamomcaa
