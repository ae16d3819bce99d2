/- Which texts may be names, as the document tests it. -/
import Derived.Test.YtdiabilcamomcaaLedName
namespace Go.Proofs.Ytdiabilcamomcaa
open Go.RowKit
set_option linter.unusedVariables false
theorem run_chr {P : Program} {t : TypeId} (ht : P.underlying t = some .string) (s : ByteArray) {k : Nat} (hk : k < s.size) (w : World) : (Instr.index t (.string s) (.int .i64 (k : Int))).run P w = .ok (.int .u8 (chr s k : Nat)) w := by
  rw [run_index_string w t s .i64 (k : Int) ht, dif_pos ⟨by omega, by omega⟩]
  have e1 : ((k : Int)).toNat = k := rfl
  simp only [chr, List.getD]
  congr 3
  have hl : k < s.data.toList.length := by simpa using hk
  rw [List.getElem?_eq_getElem hl]
  simp [ByteArray.getElem_eq_getElem_data]
set_option maxRecDepth 20000 in
set_option maxHeartbeats 400000 in
theorem name_any (s : ByteArray) (hs : s.size ≤ maxLen) (w : World) : Calls Try.prog 32 #[.string s] w fun e w' => Says e (NameOk s) ∧ Chg Non w w' := by
  obtain ⟨w1, hw1⟩ : ∃ w1, w1 = w.alloc (.cells (words.map Value.string).toArray 9) := ⟨_, rfl⟩
  have hcell : ∀ j, j < 8 → w1.cell? ⟨w.heap.size, j, none⟩ = some (.string (sth words j)) := fun j hj => by
    rw [hw1, cell_of_row _ w.heap.size j _ _ _ (heap_alloc_new w _)]
    have : j < words.length := hj
    simp [sth, List.getD, this]
  have hC : Chg Non w w1 := by rw [hw1]; exact (Chg.refl _ _).alloc _
  have HC := Lib.hid hC; clear hC
  have HE := Lib.hid hcell; clear hcell
  have HW := Lib.hid hw1; clear hw1
  have hsz : (s.size : Int) ≤ 9223372036854775807 := by unfold maxLen at hs; omega
  go_enter Try.func32, Try.ntmps32
  go_wp2_with fail
  have hw := HW.out
  unfold words at hw
  simp only [List.map] at hw
  rw [← hw]
  clear hw
  go_loop [4] (fun i => ∃ k : Nat, i = .int .i64 k ∧ k ≤ 8 ∧ ∀ j, j < k → s ≠ sth words j) (fun i => 8 - (intOf i).toNat)
  case atStart => exact ⟨0, rfl, by omega, fun j hj => by omega⟩
  case round =>
    obtain ⟨k, rfl, hk, hno⟩ := hrel
    have HN := Lib.hid hno; clear hno
    by_cases hlt : k < 8
    · have hck := HE.out k hlt
      by_cases he : s = sth words k
      · have hq : ((sth words k).toList == s.toList) = true := bytes_eq_list.2 he.symm
        have HEE := Lib.hid he; clear he
        go_wp2_with fail
        go_ret
        exact ⟨⟨false, rfl, (fun h => by cases h), fun h => absurd (hasN_yes (k := k) (l := words) hlt HEE.out) (by rw [h.2.2.2]; simp)⟩, HC.out⟩
      · have hq : ((sth words k).toList == s.toList) = false := bytes_ne_list fun h => he h.symm
        have HEE := Lib.hid he; clear he
        go_wp2_with fail
        go_round
        case rel =>
          refine ⟨k + 1, by go_num, by omega, fun j hj => ?_⟩
          rcases Nat.lt_succ_iff_lt_or_eq.1 hj with h | rfl
          · exact HN.out j h
          · exact HEE.out
        case measure => simp [intOf]; omega
    · have hw8 : hasN s words = false := hasN_no fun j hj => HN.out j (by have : j < 8 := hj; omega)
      have HW8 := Lib.hid hw8; clear hw8
      go_wp2_with fail
      go_loop [5] (fun i => ∃ k : Nat, i = .int .i64 k ∧ k ≤ s.size ∧ ∀ j, j < k → badAt j (chr s j) = false) (fun i => s.size - (intOf i).toNat)
      case atStart => exact ⟨0, rfl, by omega, fun j hj => by omega⟩
      case round =>
        obtain ⟨k, rfl, hk, hno⟩ := hrel
        have HN := Lib.hid hno; clear hno
        by_cases hlt : k < s.size
        · have hck := run_chr (P := Try.prog) (t := 9) Try.underlying9 s hlt
          have hcl := chr_lt s k
          have hnext : badAt k (chr s k) = false → ∀ j, j < k + 1 → badAt j (chr s j) = false := fun h j hj => by
            rcases Nat.lt_succ_iff_lt_or_eq.1 hj with h' | rfl
            · exact HN.out j h'
            · exact h
          have hbad : badAt k (chr s k) = true → ¬ NameOk s := fun h h' => by
            have := h'.1 k hlt
            rw [h] at this
            cases this
          have HNX := Lib.hid hnext; clear hnext
          have HB := Lib.hid hbad; clear hbad
          generalize hc : chr s k = c at hck hcl HNX HB
          have HCC := Lib.hid hc; clear hc
          go_wp2_with fail
          all_goals first
            | (go_round
               case rel => first | exact ⟨k + 1, by go_num, by omega, HNX.out (by simp_all [badAt, isLet] <;> omega)⟩ | exact ⟨0 + 1, by go_num, by omega, HNX.out (by simp_all [badAt, isLet] <;> omega)⟩
               case measure => simp [intOf]; omega)
            | (go_ret
               exact ⟨⟨false, rfl, (fun h => by cases h), fun h => absurd h (HB.out (by simp_all [badAt, isLet] <;> omega))⟩, HC.out⟩)
            | skip
        · have hall : ∀ i, i < s.size → badAt i (chr s i) = false := fun i hi => HN.out i (by omega)
          have HALL := Lib.hid hall; clear hall
          by_cases he : s = { data := #[] }
          · have hq : s.toList = [] := (toList_nil_iff_emptyBytes s).2 he
            have HEE := Lib.hid he; clear he
            go_wp2_with fail
            go_ret
            exact ⟨⟨false, rfl, (fun h => by cases h), fun h => absurd HEE.out h.2.1⟩, HC.out⟩
          · have hq : ¬ s.toList = [] := fun h => he ((toList_nil_iff_emptyBytes s).1 h)
            have HEE := Lib.hid he; clear he
            by_cases h32 : s.size ≤ 32
            · go_wp2_with fail
              go_ret
              exact ⟨⟨_, rfl, fun _ => ⟨HALL.out, HEE.out, h32, HW8.out⟩, fun _ => by simp [hq]; omega⟩, HC.out⟩
            · go_wp2_with fail
              go_ret
              exact ⟨⟨_, rfl, (fun h => by simp [hq] at h; omega), fun h => absurd h.2.2.1 h32⟩, HC.out⟩
end Go.Proofs.Ytdiabilcamomcaa
