/- Which texts may be names, as the program and as the document test it. -/
import Derived.Test.YtdiabilcamomcaaLedFind
import Derived.Lib.ConvBytes
import Derived.Laws.Closers25b
namespace Go.Proofs.Ytdiabilcamomcaa
open Go.RowKit
set_option linter.unusedVariables false
def isLet (n : Nat) : Bool := (decide (97 ≤ n) && decide (n ≤ 122)) || (decide (65 ≤ n) && decide (n ≤ 90))
def badAt (i n : Nat) : Bool := !isLet n && (decide (i = 0) || (decide (n ≠ 95) && (decide (n < 48) || decide (57 < n))))
/-- A text's i-th byte. -/
def chr (s : ByteArray) (i : Nat) : Nat := (s.data.toList.getD i 0).toNat
def words : List ByteArray := [{ data := #[109, 111, 115, 116] }, { data := #[108, 101, 97, 115, 116] }, { data := #[115, 117, 109] }, { data := #[114, 111, 119, 115] }, { data := #[118, 97, 114, 115] }, { data := #[119, 104, 111, 108, 101] }, { data := #[102, 114, 101, 101] }, { data := #[101, 110, 100] }]
def NameOk (s : ByteArray) : Prop := (∀ i, i < s.size → badAt i (chr s i) = false) ∧ s ≠ { data := #[] } ∧ s.size ≤ 32 ∧ hasN s words = false
theorem or32 (c : UInt8) : isLet c.toNat = (decide (97 ≤ bits .or .u8 (c.toNat : Int) 32) && decide (bits .or .u8 (c.toNat : Int) 32 ≤ 122)) := by
  have h : ∀ c : Fin 256, isLet c.val = (decide (97 ≤ bits .or .u8 ((c.val : Nat) : Int) 32) && decide (bits .or .u8 ((c.val : Nat) : Int) 32 ≤ 122)) := by decide +kernel
  exact h ⟨c.toNat, c.toNat_lt⟩
theorem letter_any {n : Nat} (hn : n < 256) (w : World) : Calls Try.prog 30 #[.int .u8 (n : Int)] w fun e w' => e = .returned (.bool (isLet n)) ∧ w = w' := by
  have h := or32 (UInt8.ofNat n)
  have e1 : (UInt8.ofNat n).toNat = n := by simp; omega
  rw [e1] at h
  rw [h]
  clear h hn e1
  go_enter Try.func30, Try.ntmps30
  go_wp2
  all_goals go_ret
  all_goals refine ⟨?_, rfl⟩
  all_goals simp_all <;> omega
/-- The i-th text. -/
def sth (l : List ByteArray) (i : Nat) : ByteArray := l.getD i { data := #[] }
theorem hasN_yes {s : ByteArray} {l : List ByteArray} {k : Nat} (hk : k < l.length) (h : s = sth l k) : hasN s l = true := by
  unfold hasN
  rw [List.any_eq_true]
  refine ⟨l[k], List.getElem_mem hk, MapKept.bytes_beq _ _ |>.2 ?_⟩
  rw [h]
  simp [sth, List.getD, hk]
theorem hasN_no {s : ByteArray} {l : List ByteArray} (h : ∀ j, j < l.length → s ≠ sth l j) : hasN s l = false := by
  unfold hasN
  rw [List.any_eq_false]
  intro a ha e
  obtain ⟨k, hk, rfl⟩ := List.getElem_of_mem ha
  exact h k hk (by rw [MapKept.bytes_beq _ _ |>.1 e]; simp [sth, List.getD, hk])
theorem Index_any {w : World} {g : Nat} {l : List ByteArray} (hg : w.heap[g]? = some (.cells (l.map Value.string).toArray 9 (0, 0))) (hl : l.length ≤ 100) (s : ByteArray) :
    Calls Try.prog 33 #[.slice (some ⟨g, 0, none⟩) l.length l.length, .string s] w fun e w' => ∃ z : Int, e = .returned (.int .i64 z) ∧ w = w' ∧ (decide (0 ≤ z) = hasN s l) := by
  have hc : ∀ i, i < l.length → w.cell? ⟨g, i, none⟩ = some (.string (sth l i)) := by
    intro i hi
    rw [cell_of_row w g i _ _ _ hg]
    simp [sth, List.getD, hi]
  have HC := Lib.hid hc; clear hc hg
  go_enter Try.func33, Try.ntmps33
  go_wp2
  go_loop [8] (fun i => ∃ k : Nat, i = .int .i64 k ∧ k ≤ l.length ∧ ∀ j, j < k → s ≠ sth l j) (fun i => l.length - (intOf i).toNat)
  case atStart => exact ⟨0, rfl, by omega, fun j hj => by omega⟩
  case round =>
    obtain ⟨k, rfl, hk, hno⟩ := hrel
    by_cases hlt : k < l.length
    · have hck := HC.out k hlt
      have HN := Lib.hid hno; clear hno
      by_cases hs : s = sth l k
      · have hq := bytes_eq_list.2 hs
        have HS := Lib.hid hs; clear hs
        go_wp2
        go_ret
        refine ⟨_, rfl, rfl, ?_⟩
        rw [hasN_yes hlt HS.out]
        simp
      · have hq := bytes_ne_list hs
        have HS := Lib.hid hs; clear hs
        go_wp2
        go_round
        case rel =>
          refine ⟨k + 1, by go_num, by omega, fun j hj => ?_⟩
          rcases Nat.lt_succ_iff_lt_or_eq.1 hj with h | rfl
          · exact HN.out j h
          · exact HS.out
        case measure => simp [intOf]; omega
    · go_wp2
      go_ret
      refine ⟨_, rfl, rfl, ?_⟩
      rw [hasN_no fun j hj => hno j (by omega)]
      rfl
theorem Contains_any {w : World} {g : Nat} {l : List ByteArray} (hg : w.heap[g]? = some (.cells (l.map Value.string).toArray 9 (0, 0))) (hl : l.length ≤ 100) (s : ByteArray) :
    Calls Try.prog 31 #[.slice (some ⟨g, 0, none⟩) l.length l.length, .string s] w fun e w' => e = .returned (.bool (hasN s l)) ∧ w = w' := by
  go_enter Try.func31, Try.ntmps31
  go_wp2_with (go_at_call 33; refine Calls.mono (Index_any hg hl s) ?_; rintro e w' ⟨z, rfl, rfl, hz⟩)
  go_ret
  exact ⟨rfl, rfl⟩
/-- A call's answer is yes or no, and yes just if φ. -/
def Says (e : Ending) (φ : Prop) : Prop := ∃ b, e = .returned (.bool b) ∧ (b = true ↔ φ)
theorem chr_lt (s : ByteArray) (i : Nat) : chr s i < 256 := (s.data.toList.getD i 0).toNat_lt
set_option maxRecDepth 20000 in
theorem named_any (s : ByteArray) (hs : s.size ≤ maxLen) (w : World) : Calls Try.prog 27 #[.string s] w fun e w' => Says e (NameOk s) ∧ Chg Non w w' := by
  have hconv := Lib.run_convert_string_bytes (P := Try.prog) w 9 70 5 s Try.underlying9 Try.underlying70 Try.underlying5
  obtain ⟨w1, hw1⟩ : ∃ w1, w1 = Lib.bytesWorld w 5 s := ⟨_, rfl⟩
  have hcell : ∀ j, j < s.size → w1.cell? ⟨w.heap.size, j, none⟩ = some (.int .u8 (chr s j : Nat)) := fun j hj => by rw [hw1]; exact Lib.bytesWorld_cell w _ s j hj
  have hC : Chg Non w w1 := by
    refine ⟨by rw [hw1]; rfl, by rw [hw1]; rfl, by rw [hw1]; rfl, by rw [hw1, Lib.bytesWorld_size]; omega, fun k hk _ => by rw [hw1]; exact Lib.bytesWorld_at_old w _ s k hk⟩
  rw [← hw1] at hconv
  have HC := Lib.hid hC; clear hC hw1
  have HE := Lib.hid hcell; clear hcell
  go_enter Try.func27, Try.ntmps27
  go_wp2_with fail
  go_loop [8] (fun i => ∃ k : Nat, i = .int .i64 k ∧ k ≤ s.size ∧ ∀ j, j < k → badAt j (chr s j) = false) (fun i => s.size - (intOf i).toNat)
  case atStart => exact ⟨0, rfl, by omega, fun j hj => by omega⟩
  case round =>
    obtain ⟨k, rfl, hk, hno⟩ := hrel
    have HN := Lib.hid hno; clear hno
    have hsz : (s.size : Int) ≤ 9223372036854775807 := by unfold maxLen at hs; omega
    by_cases hlt : k < s.size
    · have hck := HE.out k hlt
      have hcl := chr_lt s k
      have hnext : badAt k (chr s k) = false → ∀ j, j < k + 1 → badAt j (chr s j) = false := fun h j hj => by
        rcases Nat.lt_succ_iff_lt_or_eq.1 hj with h' | rfl
        · exact HN.out j h'
        · exact h
      have hbad : badAt k (chr s k) = true → ¬ NameOk s := fun h h' => by
        have := h'.1 k hlt
        rw [h] at this
        cases this
      have HNX := Lib.hid hnext; clear hnext
      have HB := Lib.hid hbad; clear hbad
      go_wp2_with (go_at_call 30; refine Calls.mono (letter_any hcl _) ?_; rintro e w' ⟨rfl, rfl⟩)
      all_goals first
        | (go_round
           case rel => first | exact ⟨k + 1, by go_num, by omega, HNX.out (by simp_all [badAt] <;> omega)⟩ | exact ⟨0 + 1, by go_num, by omega, HNX.out (by simp_all [badAt] <;> omega)⟩
           case measure => simp [intOf]; omega)
        | (go_ret
           exact ⟨⟨false, rfl, (fun h => by cases h), fun h => absurd h (HB.out (by simp_all [badAt] <;> omega))⟩, HC.out⟩)
        | skip
    · have hall : ∀ i, i < s.size → badAt i (chr s i) = false := fun i hi => HN.out i (by omega)
      have HALL := Lib.hid hall; clear hall
      by_cases he : s = { data := #[] }
      · have hq : s.toList = [] := (toList_nil_iff_emptyBytes s).2 he
        have HEE := Lib.hid he; clear he
        go_wp2_with fail
        go_ret
        exact ⟨⟨false, rfl, (fun h => by cases h), fun h => absurd HEE.out h.2.1⟩, HC.out⟩
      · have hq : ¬ s.toList = [] := fun h => he ((toList_nil_iff_emptyBytes s).1 h)
        have HEE := Lib.hid he; clear he
        by_cases h32 : s.size ≤ 32
        · go_wp2_with (go_at_call 31; refine Calls.mono (Contains_any (l := words) (heap_alloc_new _ _) (by decide) s) ?_; rintro e w' ⟨rfl, rfl⟩)
          go_ret
          refine ⟨⟨_, rfl, ?_⟩, HC.out.alloc _⟩
          unfold NameOk
          cases hasN s words with
          | true => simp
          | false =>
            simp
            exact ⟨fun _ => ⟨HALL.out, HEE.out, h32⟩, fun _ => hq⟩
        · go_wp2_with fail
          go_ret
          exact ⟨⟨false, rfl, (fun h => by cases h), fun h => absurd h.2.2.1 h32⟩, HC.out⟩
end Go.Proofs.Ytdiabilcamomcaa
