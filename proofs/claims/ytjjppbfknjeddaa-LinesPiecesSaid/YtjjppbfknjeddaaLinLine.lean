/- Contracts on the way to a line: bytes.Equal, HasSuffix, TrimSuffix; odd, IndexFunc, ContainsFunc; line. -/
import Derived.Test.YtjjppbfknjeddaaLinKeep
namespace Go.Proofs.Ytjjppbfknjeddaa
open Go.RowKit
set_option linter.unusedVariables false
set_option linter.unusedSimpArgs false
attribute [local go_sem ↓] Go.wp_at_zero Go.wp_at_succ
set_option maxRecDepth 40000
theorem Equal_any {w : World} {b1 b2 : Nat} {a1 a2 : Option Addr} {n1 c1 n2 c2 : Nat} {xs ys : List UInt8} (h1 : Rd w b1 a1 n1 c1 xs) (h2 : Rd w b2 a2 n2 c2 ys) :
    Calls Try.prog 27 #[.slice a1 n1 c1, .slice a2 n2 c2] w fun e w' => e = .returned (.bool (decide (xs = ys))) ∧ w = w' := by
  have v1 := h1.string (P := Try.prog) Try.underlying22 Try.underlying5 Try.underlying9
  have v2 := h2.string (P := Try.prog) Try.underlying22 Try.underlying5 Try.underlying9
  clear h1 h2
  go_enter Try.func27, Try.ntmps27
  go_wp2
  go_ret
  have : (xs == ys) = decide (xs = ys) := by rw [Bool.eq_iff_iff, beq_iff_eq, decide_eq_true_iff]
  exact ⟨by simp [this], rfl⟩
theorem Equal_of {w : World} {b1 b2 : Nat} {a1 a2 : Option Addr} {n1 c1 n2 c2 : Nat} {xs ys : List UInt8} (h1 : Rd w b1 a1 n1 c1 xs) (h2 : Rd w b2 a2 n2 c2 ys) {b : Bool} (hb : decide (xs = ys) = b) :
    Calls Try.prog 27 #[.slice a1 n1 c1, .slice a2 n2 c2] w fun e w' => e = .returned (.bool b) ∧ w = w' := by subst hb; exact Equal_any h1 h2
theorem HasSuffix_any {w : World} {b1 b2 : Nat} {a1 a2 : Option Addr} {n1 c1 n2 c2 : Nat} {xs ys : List UInt8} (h1 : Rd w b1 a1 n1 c1 xs) (h2 : Rd w b2 a2 n2 c2 ys) {b : Bool} (hb : decide (n2 ≤ n1 ∧ xs.drop (n1 - n2) = ys) = b) :
    Calls Try.prog 25 #[.slice a1 n1 c1, .slice a2 n2 c2] w fun e w' => e = .returned (.bool b) ∧ w = w' := by
  have l1 := h1.2.2.1; have l2 := h2.2.2.1; have m1 := h1.2.1; have m2 := h2.2.1
  unfold maxLen at l1 l2
  by_cases hle : n2 ≤ n1
  · obtain ⟨a3, sl3, r3⟩ := h1.from_ (P := Try.prog) (t := 22) Try.underlying22 (by kernel_rfl) .i64 (k := n1 - n2) (by omega)
    have hw : IntKind.i64.wrap ((n1 : Int) - (n2 : Int)) = ((n1 - n2 : Nat) : Int) := by rw [IntWalk.i64_in _ ⟨by omega, by omega⟩]; omega
    have hb' : decide (xs.drop (n1 - n2) = ys) = b := by rw [← hb]; simp [hle]
    have hge : (n2 : Int) ≤ (n1 : Int) := by omega
    generalize n1 - (n1 - n2) = q3 at sl3 r3
    generalize c1 - (n1 - n2) = p3 at sl3 r3
    generalize n1 - n2 = k3 at sl3 r3 hw hb'
    have R3 := Lib.hid r3; have R2 := Lib.hid h2; have HB := Lib.hid hb'
    clear r3 h1 h2 hb hb'
    go_enter Try.func25, Try.ntmps25
    go_wp2_with (go_at_call 27; refine Calls.mono (Equal_of R3.out R2.out HB.out) ?_; rintro e w' ⟨rfl, rfl⟩)
    go_ret
    exact ⟨rfl, rfl⟩
  · have hge : ¬ (n2 : Int) ≤ (n1 : Int) := by omega
    have hbf : b = false := by rw [← hb]; simp [hle]
    subst hbf
    clear hb
    go_enter Try.func25, Try.ntmps25
    go_wp2
    go_ret
    exact ⟨rfl, rfl⟩
theorem trimCR_iff {xs : List UInt8} {n : Nat} (hn : xs.length = n) : (decide (1 ≤ n ∧ xs.drop (n - 1) = [13]) = true ∧ trimCR xs = xs.take (n - 1) ∧ 1 ≤ n) ∨ (decide (1 ≤ n ∧ xs.drop (n - 1) = [13]) = false ∧ trimCR xs = xs) := by
  rcases List.eq_nil_or_concat xs with rfl | ⟨l, c, rfl⟩
  · right
    simp at hn
    subst hn
    exact ⟨by simp, by simp [trimCR]⟩
  · simp at hn
    have e1 : (l ++ [c]).drop (n - 1) = [c] := by rw [← hn]; simp
    have e2 : (l ++ [c]).take (n - 1) = l := by rw [← hn]; simp
    simp only [List.concat_eq_append, e1, e2]
    by_cases h : c = 13
    · subst h
      left
      exact ⟨by simp; omega, by simp [trimCR], by omega⟩
    · right
      exact ⟨by simp [h], by simp [trimCR, h]⟩
theorem TrimSuffix_CR {w : World} {b1 b2 : Nat} {a1 a2 : Option Addr} {n1 c1 c2 : Nat} {xs : List UInt8} (h1 : Rd w b1 a1 n1 c1 xs) (h2 : Rd w b2 a2 1 c2 [13]) :
    Calls Try.prog 22 #[.slice a1 n1 c1, .slice a2 1 c2] w fun e w' => e = .returned (.slice a1 (trimCR xs).length c1) ∧ Rd w b1 a1 (trimCR xs).length c1 (trimCR xs) ∧ w = w' := by
  have l1 := h1.2.2.1; have m1 := h1.2.1
  unfold maxLen at l1
  have R1 := Lib.hid h1; have R2 := Lib.hid h2
  rcases trimCR_iff h1.1 with ⟨hd, ht, hn⟩ | ⟨hd, ht⟩
  · obtain ⟨sl3, r3⟩ := h1.upto (P := Try.prog) (t := 22) Try.underlying22 (by kernel_rfl) .i64 (m := n1 - 1) (by omega)
    have hw : IntKind.i64.wrap ((n1 : Int) - 1) = ((n1 - 1 : Nat) : Int) := by rw [IntWalk.i64_in _ ⟨by omega, by omega⟩]; omega
    have hl : (trimCR xs).length = n1 - 1 := by rw [ht, List.length_take, h1.1]; omega
    rw [hl, ht]
    have HD := Lib.hid hd
    clear ht h1 h2 hl
    generalize n1 - 1 = k3 at sl3 r3 hw
    have R3 := Lib.hid r3
    clear r3 hd
    go_enter Try.func22, Try.ntmps22
    go_wp2_with (go_at_call 25; refine Calls.mono (HasSuffix_any (b := true) R1.out R2.out HD.out) ?_; rintro e w' ⟨rfl, rfl⟩)
    go_ret
    exact ⟨rfl, R3.out, rfl⟩
  · rw [ht]
    have HD := Lib.hid hd
    have hl := h1.1
    rw [hl]
    clear hd ht h1 h2 hl
    go_enter Try.func22, Try.ntmps22
    go_wp2_with (go_at_call 25; refine Calls.mono (HasSuffix_any (b := false) R1.out R2.out HD.out) ?_; rintro e w' ⟨rfl, rfl⟩)
    go_ret
    exact ⟨rfl, R1.out, rfl⟩
theorem oddB_iff (c : UInt8) : oddB c = ((decide ((c.toNat : Int) < 32) && !decide ((c.toNat : Int) = 9)) || decide (126 < (c.toNat : Int))) := by
  unfold oddB
  congr 1
  · congr 1
    · rw [Bool.eq_iff_iff, decide_eq_true_iff, decide_eq_true_iff]; omega
    · congr 1
      rw [Bool.eq_iff_iff, decide_eq_true_iff, decide_eq_true_iff]; omega
  · rw [Bool.eq_iff_iff, decide_eq_true_iff, decide_eq_true_iff]; omega
theorem odd_any (c : UInt8) (w : World) : Calls Try.prog 24 #[.int .u8 (c.toNat : Int)] w fun e w' => e = .returned (.bool (oddB c)) ∧ w = w' := by
  rw [oddB_iff]
  have h0 : 0 ≤ (c.toNat : Int) := by omega
  by_cases h1 : (c.toNat : Int) < 32
  · by_cases h2 : (c.toNat : Int) = 9
    · have h3 : ¬ 126 < (c.toNat : Int) := by omega
      rw [decide_eq_true h1, decide_eq_true h2, decide_eq_false h3]
      rw [h2]
      go_enter Try.func24, Try.ntmps24
      go_wp2
      go_ret
      exact ⟨rfl, rfl⟩
    · have h3 : ¬ 126 < (c.toNat : Int) := by omega
      have h4 : ((c.toNat : Int) != 9) = true := by simp; omega
      rw [decide_eq_true h1, decide_eq_false h2, decide_eq_false h3]
      go_enter Try.func24, Try.ntmps24
      go_wp2
      go_ret
      exact ⟨rfl, rfl⟩
  · by_cases h3 : 126 < (c.toNat : Int)
    · rw [decide_eq_false h1, decide_eq_true h3]
      go_enter Try.func24, Try.ntmps24
      go_wp2
      go_ret
      exact ⟨rfl, rfl⟩
    · rw [decide_eq_false h1, decide_eq_false h3]
      go_enter Try.func24, Try.ntmps24
      go_wp2
      go_ret
      exact ⟨rfl, rfl⟩
theorem odd_of {c : UInt8} {b : Bool} (hb : oddB c = b) (w : World) : Calls Try.prog 24 #[.int .u8 (c.toNat : Int)] w fun e w' => e = .returned (.bool b) ∧ w = w' := by subst hb; exact odd_any c w
theorem any_take_succ {xs : List UInt8} {k : Nat} (hk : k < xs.length) (h : (xs.take k).any oddB = false) : (xs.take (k + 1)).any oddB = oddB (xs.getD k 0) := by
  rw [List.take_succ_eq_append_getElem hk, List.any_append, h]
  simp [List.getD, hk]
set_option maxRecDepth 20000 in
theorem IndexFunc_odd {w : World} {b1 : Nat} {a1 : Option Addr} {n1 c1 : Nat} {xs : List UInt8} (h1 : Rd w b1 a1 n1 c1 xs) :
    Calls Try.prog 26 #[.slice a1 n1 c1, .func (.func 24) #[] #[]] w fun e w' => (∃ z : Int, e = .returned (.int .i64 z) ∧ (decide (0 ≤ z) = xs.any oddB)) ∧ w = w' := by
  obtain ⟨l1, le1, m1, z1, r1⟩ := h1
  unfold maxLen at m1
  have R1 := Lib.hid r1; clear r1
  have L1 := Lib.hid l1; clear l1
  clear z1
  go_enter Try.func26, Try.ntmps26
  go_wp2
  go_loop [8] (fun i => ∃ k : Nat, k ≤ n1 ∧ i = .int .i64 (k : Int) ∧ (xs.take k).any oddB = false) (fun i => n1 - (intOf i).toNat)
  case atStart => exact ⟨0, by omega, rfl, by simp⟩
  case round =>
    obtain ⟨k, hk, rfl, ht⟩ := hrel
    have HT := Lib.hid ht; clear ht
    by_cases hlt : k < n1
    · obtain ⟨o1, rfl, c1'⟩ := R1.out (by omega)
      have d1 : w.cell? ⟨b1, o1 + k, none⟩ = some (.int .u8 ((xs.getD k 0).toNat : Int)) := c1' k hlt
      clear c1'
      have hs := any_take_succ (by have := L1.out; omega) HT.out
      generalize hx : xs.getD k 0 = x at d1 hs
      have HX := Lib.hid hx; clear hx
      have HS := Lib.hid hs; clear hs
      cases ho : oddB x with
      | true =>
        have HO := Lib.hid ho; clear ho
        go_wp2_with (go_at_call 24; refine Calls.mono (odd_of HO.out _) ?_; rintro e w' ⟨rfl, rfl⟩)
        go_ret
        refine ⟨⟨_, rfl, ?_⟩, rfl⟩
        have : xs.any oddB = true := by
          rw [List.any_eq_true]
          refine ⟨x, ?_, HO.out⟩
          rw [← HX.out]
          have : k < xs.length := by have := L1.out; omega
          simp [List.getD, this]
        rw [this, decide_eq_true_iff]
        show (0 : Int) ≤ (k : Int)
        omega
      | false =>
        have HO := Lib.hid ho; clear ho
        go_wp2_with (go_at_call 24; refine Calls.mono (odd_of HO.out _) ?_; rintro e w' ⟨rfl, rfl⟩)
        go_round
        case rel => exact ⟨k + 1, by omega, by go_num, by rw [HS.out, HO.out]⟩
        case measure => simp [intOf]; omega
    · go_wp2
      go_ret
      refine ⟨⟨_, rfl, ?_⟩, rfl⟩
      have e := HT.out
      rw [List.take_of_length_le (by have := L1.out; omega)] at e
      rw [e]
      rfl
end Go.Proofs.Ytjjppbfknjeddaa
