/- LinesLong, walked. -/
import Derived.Test.YtjjppbfknjeddaaLinesMany
namespace Go.Proofs.Ytjjppbfknjeddaa
open Go.RowKit Go.Shelf
set_option linter.unusedVariables false
set_option linter.unusedSimpArgs false
attribute [local go_sem ↓] Go.wp_at_zero Go.wp_at_succ
def letter (i : Nat) : UInt8 := UInt8.ofNat (97 + i % 26)
def letters (k : Nat) : List UInt8 := (List.range k).map letter
theorem letters_length (k : Nat) : (letters k).length = k := by simp [letters]
theorem letter_nat (i : Nat) : (letter i).toNat = 97 + i % 26 := by unfold letter; rw [UInt8.toNat_ofNat']; omega
theorem letters_mem {k : Nat} {c : UInt8} (h : c ∈ letters k) : 97 ≤ c.toNat ∧ c.toNat ≤ 122 := by
  obtain ⟨i, _, rfl⟩ := List.mem_map.1 h
  rw [letter_nat]; omega
theorem letters_fine {k : Nat} : (letters k).any oddB = false := by
  rw [List.any_eq_false]
  intro c hc
  have := letters_mem hc
  unfold oddB
  have h1 : ¬ c.toNat < 32 := by omega
  have h2 : ¬ 126 < c.toNat := by omega
  simp [h1, h2]
def longB (k : Nat) (both : Bool) : List UInt8 := letters k ++ (if both then [13] else [])
theorem longB_length (k : Nat) (both : Bool) : (longB k both).length = k + (if both then 1 else 0) := by
  unfold longB; cases both <;> simp [letters_length]
theorem longB_no {k : Nat} {both : Bool} : ∀ c ∈ longB k both, c ≠ 10 := by
  intro c hc
  unfold longB at hc
  rcases List.mem_append.1 hc with h | h
  · have := letters_mem h
    intro e; subst e; simp at this
  · cases both
    · simp at h
    · simp at h; subst h; decide
theorem longB_trim (k : Nat) (both : Bool) : trimCR (longB k both) = letters k := by
  unfold longB
  cases both
  · simp only [Bool.false_eq_true, if_false, List.append_nil]
    exact trimCR_no (fun c hc e => by have := letters_mem hc; subst e; simp at this)
  · exact trimCR_snoc _
theorem long_line {k : Nat} {both : Bool} (hk : 69995 ≤ k) : lineB (keepB [] (longB k both)) = if k ≤ 70000 then (letters k, false) else ([], true) := by
  have hl := longB_length k both
  by_cases h : k ≤ 70000
  · rw [if_pos h]
    rw [keepB_short (by rw [hl]; split <;> omega)]
    have h1 : ¬ (longB k both).length = 70002 := by rw [hl]; split <;> omega
    have h2 : ¬ 70000 < (letters k).length := by rw [letters_length]; omega
    rw [lineB_eq _ (longB_trim k both)]
    simp [h1, h2, letters_fine]
  · rw [if_neg h]
    have hkl := keepB_len (s := []) (by simp) (longB k both)
    simp only [List.length_nil, Nat.zero_add] at hkl
    by_cases h2 : 70002 ≤ (longB k both).length
    · have h3 : (keepB [] (longB k both)).length = 70002 := by rw [hkl]; omega
      simp [lineB, badB, h3]
    · rw [keepB_short (by omega)]
      have h4 : 70000 < (letters k).length := by rw [letters_length]; omega
      rw [lineB_eq _ (longB_trim k both)]
      simp [h4]
theorem long_puts {k : Nat} {both : Bool} (hk : 69995 ≤ k) : putB [] (longB k both) = [] ∧ restB [] (longB k both) = keepB [] (longB k both) ∧
    putB (keepB [] (longB k both)) [10, 110, 101, 120, 116, 10] = [if k ≤ 70000 then (letters k, false) else ([], true), ([110, 101, 120, 116], false)] ∧ restB (keepB [] (longB k both)) [10, 110, 101, 120, 116, 10] = [] := by
  have h := put_plain (longB k both) [] (s := []) (by simp) longB_no
  rw [List.append_nil] at h
  refine ⟨h.1, h.2, ?_, ?_⟩
  · have e : putB [] [110, 101, 120, 116, 10] = [([110, 101, 120, 116], false)] := by decide +kernel
    rw [← long_line hk, ← e]; rfl
  · rfl
/-- The row while it is filled. -/
def fillR (k i : Nat) : Array Value := (((letters k).take i ++ List.replicate (k - i) 0).map bv).toArray
theorem fillR_size {k i : Nat} (h : i ≤ k) : (fillR k i).size = k := by simp [fillR, letters_length]; omega
theorem fillR_set {k i : Nat} (h : i < k) : (fillR k i).setIfInBounds i (bv (letter i)) = fillR k (i + 1) := by
  unfold fillR
  apply Array.ext'
  have h1 : ((letters k).take i).length = i := by rw [List.length_take, letters_length]; omega
  have h2 : (letters k).take (i + 1) = (letters k).take i ++ [letter i] := by
    rw [List.take_succ_eq_append_getElem (by rw [letters_length]; exact h)]
    simp [letters]
  have h3 : List.replicate (k - i) (0 : UInt8) = 0 :: List.replicate (k - (i + 1)) 0 := by
    rw [show k - i = (k - (i + 1)) + 1 by omega, List.replicate_succ]
  rw [h2, h3]
  simp only [Array.toList_setIfInBounds, List.map_append, List.map_cons, List.map_nil]
  have h4 : min i (letters k).length = i := by rw [letters_length]; omega
  rw [List.set_append_right _ _ (by simp [h4])]
  simp [h4]
set_option maxRecDepth 40000 in
set_option maxHeartbeats 8000000 in
theorem LinesLong_any (nb : UInt8) (both : Bool) (w : World) :
    Calls Try.prog 6 #[.int .u8 (nb.toNat : Int), .bool both] w fun e w' => e = .returned (.bool true) ∧ Below w.heap.size w w' := by
  have kc := fun (w : World) (C : Array Value) (n c : Nat) => Lib.run_convert_bytes_const (P := Try.prog) w 22 5 C n c Try.underlying22 Try.underlying5
  obtain ⟨k, hk⟩ : ∃ k : Nat, 69995 + nb.toNat % 10 = k := ⟨_, rfl⟩
  have hkb : 69995 ≤ k ∧ k ≤ 70004 := by omega
  have ht10 : (nb.toNat : Int).tmod 10 = (k : Int) - 69995 := by rw [Int.tmod_eq_emod_of_nonneg (by omega)]; omega
  have hw1 : IntKind.i64.wrap ((k : Int) - 69995) = (k : Int) - 69995 := IntWalk.i64_in _ ⟨by omega, by omega⟩
  have hw2 : IntKind.i64.wrap (69995 + ((k : Int) - 69995)) = (k : Int) := by rw [IntWalk.i64_in _ ⟨by omega, by omega⟩]; omega
  obtain ⟨i0, hi, hz0, hz1, hz2⟩ := info_parts Try.info_u8
  have Hi := Lib.hid hi; have Hz0 := Lib.hid hz0; have Hz1 := Lib.hid hz1; have Hz2 := Lib.hid hz2
  clear hi hz0 hz1 hz2 hk
  go_enter Try.func6, Try.ntmps6
  go_wp2_with (at_make; refine wpList_make_any rfl _ _ 22 rfl 5 i0 (.int .u8 0) 1 1 Try.underlying22 Hi.out Hz0.out Hz1.out Hz2.out _ _ _ _ k k rfl rfl rfl rfl (by omega) (by omega) (by unfold maxLen; omega) ?_)
  go_loopw [7] (fun i wr => ∃ j : Nat, j ≤ k ∧ i = .int .i64 (j : Int) ∧ wr.heap[w.heap.size]? = some (.cells (fillR k j) 5 (0, 0)) ∧ Chg Non w wr) (fun i _ => k - (intOf i).toNat)
  case atStart => exact ⟨0, by omega, rfl, by rw [heap_alloc_new w _, madeCells_one]; simp [fillR, bv], (Chg.refl _ _).alloc _⟩
  case round =>
    obtain ⟨j, hj, rfl, hrow, hchg⟩ := hrel
    by_cases hlt : j < k
    · have hw3 : IntKind.u8.wrap ((j : Int).tmod 26) = ((j % 26 : Nat) : Int) := by rw [Int.tmod_eq_emod_of_nonneg (by omega), IntWalk.u8_in _ ⟨by omega, by omega⟩]; omega
      have hw4 : IntKind.u8.wrap (97 + ((j % 26 : Nat) : Int)) = ((letter j).toNat : Int) := by rw [IntWalk.u8_in _ ⟨by omega, by omega⟩, letter_nat]; omega
      have cj : (wr.cell? ⟨w.heap.size, j, none⟩).isSome = true := by rw [cell_of_row wr _ j _ _ _ hrow]; simp [fillR_size (Nat.le_of_lt hlt)]; exact hlt
      obtain ⟨vj, hvj⟩ := Option.isSome_iff_exists.1 cj
      have fj := frozen_of_row wr w.heap.size j _ _ hrow
      have HR := Lib.hid hrow; have HC := Lib.hid hchg
      have j0 : (0 : Int) ≤ (j : Int) := by omega
      have j1 : (j : Int) < (k : Int) := by omega
      clear hrow hchg cj
      go_wp2_with fail
      go_roundw
      case rel =>
        refine ⟨j + 1, by omega, by go_num, ?_, HC.out.setCell (.inl (Nat.le_refl _)) _⟩
        rw [← fillR_set hlt, show (97 + (j : Int) % 26) = ((letter j).toNat : Int) by rw [letter_nat]; omega]
        exact heap_setCell_same wr w.heap.size j _ _ _ HR.out
      case measure => simp [intOf]; omega
    · have j1 : ¬ (j : Int) < (k : Int) := by omega
      obtain rfl : k = j := by omega
      have hB : Own wr w.heap.size 5 1 (some ⟨w.heap.size, 0, none⟩) k k ((letters k).map bv) := by
        have h := Own.of_block (n := k) (cap := k) (sz := 1) (B := w.heap.size) hrow (Nat.le_refl _) (Nat.le_refl _) (by unfold maxLen; omega) (by rw [fillR_size (Nat.le_refl _)]; omega)
        have e : (fillR k k).toList.take (k * 1) = (letters k).map bv := by
          unfold fillR
          rw [List.toList_toArray, Nat.sub_self, List.replicate_zero, List.append_nil, List.take_of_length_le (l := letters k) (by rw [letters_length]; omega), List.take_of_length_le (by rw [List.length_map, letters_length]; omega)]
        rw [e] at h; exact h
      have HB := Lib.hid hB; have HC := Lib.hid hchg
      clear hB hrow hchg j1 hj hlt
      cases both with
      | false =>
        obtain ⟨w3, hw3⟩ : ∃ w3, w3 = wr := ⟨_, rfl⟩
        have hown : Own w3 w.heap.size 5 1 (some ⟨w.heap.size, 0, none⟩) k k ((longB k false).map bv) := by rw [hw3]; simpa [longB] using HB.out
        have hc3 : Chg Non w w3 := by rw [hw3]; exact HC.out
        have hnl : k = (longB k false).length := by rw [longB_length]; simp
        rw [← hw3]
        clear hw3 HB HC
        have B3 := Lib.hid hown; have C3 := Lib.hid hc3
        obtain ⟨g3, _, hrd3⟩ := Rd.of_Own B3.out
        have RB := Lib.hid hrd3
        clear hown hc3 hrd3
        have hP := long_puts (k := k) (both := false) (by omega)
        have hLen := longB_length k false
        have hKl := keepB_len (s := []) (by simp) (longB k false)
        simp only [List.length_nil, Nat.zero_add] at hKl
        obtain ⟨BB, hBB⟩ : ∃ BB, longB k false = BB := ⟨_, rfl⟩
        have hTk : BB.take k = letters k := by rw [← hBB]; unfold longB; rw [List.take_left' (letters_length k)]
        rw [hBB] at hP hLen hKl hnl
        simp at hLen
        rw [hBB] at RB
        obtain ⟨KB, hKB⟩ : ∃ KB, keepB [] BB = KB := ⟨_, rfl⟩
        rw [hKB] at hP hKl
        have P1 := Lib.hid hP.1; have P2 := Lib.hid hP.2.1; have P3 := Lib.hid hP.2.2.1; have P4 := Lib.hid hP.2.2.2; have LN := Lib.hid hLen; have NL := Lib.hid hnl; have KL := Lib.hid hKl; have TK := Lib.hid hTk
        clear hP hLen hKl hBB hKB hTk hnl
        go_wp2_with fail
        refine Calls.mono (New_any _) ?_
        rintro e w4 ⟨rfl, hr4, hc4⟩
        obtain ⟨r, hrr⟩ : ∃ r, r = w3.heap.size + 1 := ⟨_, rfl⟩
        obtain ⟨p, hpp⟩ : ∃ p, p = w3.heap.size := ⟨_, rfl⟩
        have PB := Lib.hid (show p = w3.heap.size from hpp)
        rw [← hrr, ← hpp] at hr4
        rw [← hrr]
        have R4 := Lib.hid hr4; have C4 := Lib.hid hc4
        clear hr4 hc4 hrr hpp
        go_wp2_with fail
        with_reducible refine Calls.mono (Put_rdr R4.out (RB.out.chg C4.out (fun h => h)) (fun hp => ⟨by have h1 := RB.out.lt hp; have h2 := PB.out; omega, by simp [blk]⟩) (by omega) P1.out P2.out) ?_
        rintro e w5 ⟨la, lc, oa, oc, m, ao5, cap5, rfl, h5⟩
        have m5 : m = 0 := h5.ml.symm
        subst m5
        have R5 := Lib.hid h5.rdr
        have C5 := Lib.hid (PutEnd.non R4.out h5.chg C4.out (by have := PB.out; omega))
        have Z5 := Lib.hid (show p < w5.heap.size by have := h5.rdr.st.lt; omega)
        clear h5
        go_wp2_with (go_at_call 14; refine Calls.mono (Left_of R5.out rfl) ?_; rintro e w' ⟨rfl, rfl⟩)
        refine Calls.mono (Put_rdr (b2 := w5.heap.size) (n := 6) (R5.out.keep ((Chg.refl _ _).alloc _)) (Rd.litB (bs := [10, 110, 101, 120, 116, 10]) (heap_alloc_new w5 _) (by rfl) rfl (by decide)) (fun _ => ⟨by have := Z5.out; omega, fun e => by have := (R5.out.st.own.lt _ e).2; omega⟩) (by omega) P3.out P4.out) ?_
        rintro e w6 ⟨lb, lbc, ob, obc, m, ao6, cap6, rfl, h6⟩
        have m6 : m = 2 := h6.ml.symm
        subst m6
        have H6 := Lib.hid h6
        have C6 := Lib.hid (PutEnd.non (R5.out.keep ((Chg.refl _ _).alloc _)) h6.chg (C5.out.alloc _) (by have := PB.out; omega))
        clear h6
        go_wp2_with fail
        refine Calls.mono (alive12_any _) ?_
        rintro e w7 ⟨rfl, hc7⟩
        have C7 := Lib.hid (C6.out.trans hc7)
        have q1 := H6.out.ot.chg hc7 (fun _ _ h => h); have q2 := H6.out.ob.chg hc7 (fun _ _ h => h)
        obtain ⟨g1, rfl, _, _, _, e1, _⟩ := q1.form (by have := q1.le; omega)
        obtain ⟨g2, rfl, _, _, _, e2, _⟩ := q2.form (by have := q2.le; omega)
        have d10 := e1 0 (by omega); have d11 := e1 1 (by omega); have d20 := e2 0 (by omega); have d21 := e2 1 (by omega)
        have RB7 := Lib.hid (RB.out.chg C7.out (fun h => h))
        clear hc7 q1 q2 e1 e2
        have hmin : min (k : Int) 70002 = (KB.length : Int) := by
          have h1 := KL.out; have h2 := NL.out; omega
        obtain ⟨sl7, rd7⟩ := RB7.out.upto (P := Try.prog) (t := 22) Try.underlying22 (by kernel_rfl) .i64 (m := k) (by have h1 := NL.out; have h2 := LN.out; omega)
        rw [TK.out] at rd7
        have cv7 : ∀ q, (convert 22 9 (.slice (some ⟨w.heap.size, 0, none⟩) k k)).run Try.prog (w7.drewN q) = .ok (.string ⟨(letters k).toArray⟩) (w7.drewN q) := fun q => (rd7.drewN q).string Try.underlying22 Try.underlying5 Try.underlying9
        by_cases hk7 : k ≤ 70000
        · rw [if_pos hk7] at d10 d11 d20 d21
          replace d10 : w7.cell? ⟨g1, 0, none⟩ = some (.string ⟨(letters k).toArray⟩) := d10
          replace d11 : w7.cell? ⟨g1, 1, none⟩ = some (.string { data := #[110, 101, 120, 116] }) := d11
          replace d20 : w7.cell? ⟨g2, 0, none⟩ = some (.bool false) := d20
          replace d21 : w7.cell? ⟨g2, 1, none⟩ = some (.bool false) := d21
          have hk8 : ¬ 70000 < (k : Int) := by omega
          generalize letters k = lk at d10 cv7
          clear rd7
          go_wp2_with fail
          go_quiet (fail)
          go_wp2_with fail
          go_ret
          exact ⟨by simp, ((C3.out.trans C7.out).drewN _).belowN⟩
        · rw [if_neg hk7] at d10 d11 d20 d21
          replace d10 : w7.cell? ⟨g1, 0, none⟩ = some (.string { data := #[] }) := d10
          replace d11 : w7.cell? ⟨g1, 1, none⟩ = some (.string { data := #[110, 101, 120, 116] }) := d11
          replace d20 : w7.cell? ⟨g2, 0, none⟩ = some (.bool true) := d20
          replace d21 : w7.cell? ⟨g2, 1, none⟩ = some (.bool false) := d21
          have hk8 : 70000 < (k : Int) := by omega
          clear rd7 cv7 sl7
          go_wp2_with fail
          go_ret
          exact ⟨by simp, (C3.out.trans C7.out).belowN⟩
      | true =>
        go_wp2_with (at_builtin; refine wpList_append_Own rfl _ _ 22 22 rfl w.heap.size 5 1 1 i0 (.int .u8 0) Try.underlying22 Hi.out Hz0.out Hz1.out rfl Hz2.out (some ⟨w.heap.size, 0, none⟩) k k _ rfl (HB.out.alloc _) _ 1 _ rfl (Src.cells Try.underlying22 (heap_alloc_new _ _) 1 1 1 (by rfl) (by simp [Value.oneCell'])) (by unfold maxLen; omega) (by omega) (by have := HC.out.size; simp; omega) ?_; intro a3 c3 w3 hown hchg3 _ _; have hc3 : Chg Non w w3 := (HC.out.alloc _).next hchg3 (fun i hi e => by have := (HB.out.lt i e.1).1; omega); have hown : Own w3 w.heap.size 5 1 a3 (k + 1) c3 ((longB k true).map bv) := (by simpa [longB, bv] using hown); clear hchg3; obtain ⟨n3, hn3⟩ : ∃ n3, n3 = k + 1 := ⟨_, rfl⟩; rw [← hn3] at hown ⊢; have N3 := Lib.hid hn3; have n3b : n3 ≤ 70005 := (by omega); clear hn3)
        have hnl : n3 = (longB k true).length := (by rw [N3.out, longB_length]; simp)
        clear HB HC
        have B3 := Lib.hid hown; have C3 := Lib.hid hc3
        obtain ⟨g3, _, hrd3⟩ := Rd.of_Own B3.out
        have RB := Lib.hid hrd3
        clear hown hc3 hrd3
        have hP := long_puts (k := k) (both := true) (by omega)
        have hLen := longB_length k true
        have hKl := keepB_len (s := []) (by simp) (longB k true)
        simp only [List.length_nil, Nat.zero_add] at hKl
        obtain ⟨BB, hBB⟩ : ∃ BB, longB k true = BB := ⟨_, rfl⟩
        have hTk : BB.take k = letters k := by rw [← hBB]; unfold longB; rw [List.take_left' (letters_length k)]
        rw [hBB] at hP hLen hKl hnl
        simp at hLen
        rw [hBB] at RB
        obtain ⟨KB, hKB⟩ : ∃ KB, keepB [] BB = KB := ⟨_, rfl⟩
        rw [hKB] at hP hKl
        have P1 := Lib.hid hP.1; have P2 := Lib.hid hP.2.1; have P3 := Lib.hid hP.2.2.1; have P4 := Lib.hid hP.2.2.2; have LN := Lib.hid hLen; have NL := Lib.hid hnl; have KL := Lib.hid hKl; have TK := Lib.hid hTk
        clear hP hLen hKl hBB hKB hTk hnl
        go_wp2_with fail
        refine Calls.mono (New_any _) ?_
        rintro e w4 ⟨rfl, hr4, hc4⟩
        obtain ⟨r, hrr⟩ : ∃ r, r = w3.heap.size + 1 := ⟨_, rfl⟩
        obtain ⟨p, hpp⟩ : ∃ p, p = w3.heap.size := ⟨_, rfl⟩
        have PB := Lib.hid (show p = w3.heap.size from hpp)
        rw [← hrr, ← hpp] at hr4
        rw [← hrr]
        have R4 := Lib.hid hr4; have C4 := Lib.hid hc4
        clear hr4 hc4 hrr hpp
        go_wp2_with fail
        with_reducible refine Calls.mono (Put_rdr R4.out (RB.out.chg C4.out (fun h => h)) (fun hp => ⟨by have h1 := RB.out.lt hp; have h2 := PB.out; omega, by simp [blk]⟩) (by omega) P1.out P2.out) ?_
        rintro e w5 ⟨la, lc, oa, oc, m, ao5, cap5, rfl, h5⟩
        have m5 : m = 0 := h5.ml.symm
        subst m5
        have R5 := Lib.hid h5.rdr
        have C5 := Lib.hid (PutEnd.non R4.out h5.chg C4.out (by have := PB.out; omega))
        have Z5 := Lib.hid (show p < w5.heap.size by have := h5.rdr.st.lt; omega)
        clear h5
        go_wp2_with (go_at_call 14; refine Calls.mono (Left_of R5.out rfl) ?_; rintro e w' ⟨rfl, rfl⟩)
        refine Calls.mono (Put_rdr (b2 := w5.heap.size) (n := 6) (R5.out.keep ((Chg.refl _ _).alloc _)) (Rd.litB (bs := [10, 110, 101, 120, 116, 10]) (heap_alloc_new w5 _) (by rfl) rfl (by decide)) (fun _ => ⟨by have := Z5.out; omega, fun e => by have := (R5.out.st.own.lt _ e).2; omega⟩) (by omega) P3.out P4.out) ?_
        rintro e w6 ⟨lb, lbc, ob, obc, m, ao6, cap6, rfl, h6⟩
        have m6 : m = 2 := h6.ml.symm
        subst m6
        have H6 := Lib.hid h6
        have C6 := Lib.hid (PutEnd.non (R5.out.keep ((Chg.refl _ _).alloc _)) h6.chg (C5.out.alloc _) (by have := PB.out; omega))
        clear h6
        go_wp2_with fail
        refine Calls.mono (alive12_any _) ?_
        rintro e w7 ⟨rfl, hc7⟩
        have C7 := Lib.hid (C6.out.trans hc7)
        have q1 := H6.out.ot.chg hc7 (fun _ _ h => h); have q2 := H6.out.ob.chg hc7 (fun _ _ h => h)
        obtain ⟨g1, rfl, _, _, _, e1, _⟩ := q1.form (by have := q1.le; omega)
        obtain ⟨g2, rfl, _, _, _, e2, _⟩ := q2.form (by have := q2.le; omega)
        have d10 := e1 0 (by omega); have d11 := e1 1 (by omega); have d20 := e2 0 (by omega); have d21 := e2 1 (by omega)
        have RB7 := Lib.hid (RB.out.chg C7.out (fun h => h))
        clear hc7 q1 q2 e1 e2
        have hmin : min (n3 : Int) 70002 = (KB.length : Int) := by
          have h1 := KL.out; have h2 := NL.out; omega
        obtain ⟨sl7, rd7⟩ := RB7.out.upto (P := Try.prog) (t := 22) Try.underlying22 (by kernel_rfl) .i64 (m := k) (by have h1 := NL.out; have h2 := LN.out; omega)
        rw [TK.out] at rd7
        have cv7 : ∀ q, (convert 22 9 (.slice a3 k c3)).run Try.prog (w7.drewN q) = .ok (.string ⟨(letters k).toArray⟩) (w7.drewN q) := fun q => (rd7.drewN q).string Try.underlying22 Try.underlying5 Try.underlying9
        by_cases hk7 : k ≤ 70000
        · rw [if_pos hk7] at d10 d11 d20 d21
          replace d10 : w7.cell? ⟨g1, 0, none⟩ = some (.string ⟨(letters k).toArray⟩) := d10
          replace d11 : w7.cell? ⟨g1, 1, none⟩ = some (.string { data := #[110, 101, 120, 116] }) := d11
          replace d20 : w7.cell? ⟨g2, 0, none⟩ = some (.bool false) := d20
          replace d21 : w7.cell? ⟨g2, 1, none⟩ = some (.bool false) := d21
          have hk8 : ¬ 70000 < (k : Int) := by omega
          generalize letters k = lk at d10 cv7
          clear rd7
          go_wp2_with fail
          go_quiet (fail)
          go_wp2_with fail
          go_ret
          exact ⟨by simp, ((C3.out.trans C7.out).drewN _).belowN⟩
        · rw [if_neg hk7] at d10 d11 d20 d21
          replace d10 : w7.cell? ⟨g1, 0, none⟩ = some (.string { data := #[] }) := d10
          replace d11 : w7.cell? ⟨g1, 1, none⟩ = some (.string { data := #[110, 101, 120, 116] }) := d11
          replace d20 : w7.cell? ⟨g2, 0, none⟩ = some (.bool true) := d20
          replace d21 : w7.cell? ⟨g2, 1, none⟩ = some (.bool false) := d21
          have hk8 : 70000 < (k : Int) := by omega
          clear rd7 cv7 sl7
          go_wp2_with fail
          go_ret
          exact ⟨by simp, (C3.out.trans C7.out).belowN⟩
end Go.Proofs.Ytjjppbfknjeddaa
