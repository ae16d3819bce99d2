/- LinesWords, walked. -/
import Derived.Test.YtjjppbfknjeddaaDoorRefWords
import Derived.Test.YtjjppbfknjeddaaDoorBookUseT
import Derived.Test.YtjjppbfknjeddaaDoorRules
import Derived.Deep.DeepCutAuto
import Derived.Deep.CutBlock
namespace Go.Proofs.YtjjppbfknjeddaaDoor
open Go.RowKit
set_option linter.unusedVariables false
set_option linter.unusedSimpArgs false
attribute [local go_sem ↓] Go.wp_at_zero Go.wp_at_succ
set_option maxRecDepth 20000 in
theorem Beyond_one {w : World} {g n : Nat} (hc : w.cell? ⟨g, 0, none⟩ = some (.int .i64 (n : Int))) (hn : n ≤ 9223372036854775807) :
    Calls Tryd.prog 4 #[.slice (some ⟨g, 0, none⟩) 1 1] w fun e w' => e = .returned (.bool (decide (1048576 < n))) ∧ w' = w := by
  by_cases h : 1048576 < n
  · have h1 : (1048576 : Int) < (n : Int) := by omega
    go_enter Tryd.func4, Tryd.ntmps4
    go_wp2_with fail
    go_loopw [3, 4] (fun s i wr => s = .int .i64 0 ∧ i = .int .i64 0 ∧ w = wr) (fun _ i _ => 1 - (intOf i).toNat)
    case atStart => exact ⟨rfl, rfl, rfl⟩
    case round =>
      obtain ⟨rfl, rfl, rfl⟩ := hrel
      go_wp2_with fail
      go_ret
      exact ⟨by simp [h], rfl⟩
  · have h1 : ¬ (1048576 : Int) < (n : Int) := by omega
    go_enter Tryd.func4, Tryd.ntmps4
    go_wp2_with fail
    go_loopw [3, 4] (fun s i wr => ((s = .int .i64 0 ∧ i = .int .i64 0) ∨ (s = .int .i64 (n : Int) ∧ i = .int .i64 1)) ∧ w = wr) (fun _ i _ => 1 - (intOf i).toNat)
    case atStart => exact ⟨.inl ⟨rfl, rfl⟩, rfl⟩
    case round =>
      obtain ⟨⟨rfl, rfl⟩ | ⟨rfl, rfl⟩, rfl⟩ := hrel
      · go_wp2_with fail
        go_roundw
        case rel => exact ⟨.inr ⟨by go_num, by go_num⟩, by trivial⟩
        case measure => simp [intOf]
      · go_wp2_with fail
        go_ret
        exact ⟨by simp [h], rfl⟩
theorem Tryd.size_Book : (Tryd.prog.info? 39).map (·.size) = some 13 := by kernel_rfl
/-- An empty book stored into a block that was made for it. -/
theorem newBook (w : World) : ∃ W, CanStore Tryd.prog 39 (w.alloc (.cells #[.int .i64 0, .slice none 0 0, .slice none 0 0, .slice none 0 0, .slice none 0 0, .slice none 0 0, .slice none 0 0, .slice none 0 0, .slice none 0 0, .slice none 0 0, .slice none 0 0, .slice none 0 0, .slice none 0 0] 39)) (.pointer (some ⟨w.heap.size, 0, none⟩)) (.agg #[.int .i64 0, .slice none 0 0, .slice none 0 0, .slice none 0 0, .slice none 0 0, .slice none 0 0, .slice none 0 0, .slice none 0 0, .slice none 0 0, .slice none 0 0, .slice none 0 0, .slice none 0 0, .slice none 0 0]) ∧
    storedAt (w.alloc (.cells #[.int .i64 0, .slice none 0 0, .slice none 0 0, .slice none 0 0, .slice none 0 0, .slice none 0 0, .slice none 0 0, .slice none 0 0, .slice none 0 0, .slice none 0 0, .slice none 0 0, .slice none 0 0, .slice none 0 0] 39)) (.pointer (some ⟨w.heap.size, 0, none⟩)) (.agg #[.int .i64 0, .slice none 0 0, .slice none 0 0, .slice none 0 0, .slice none 0 0, .slice none 0 0, .slice none 0 0, .slice none 0 0, .slice none 0 0, .slice none 0 0, .slice none 0 0, .slice none 0 0, .slice none 0 0]) = W ∧
    W.heap[w.heap.size]? = some (.cells (bookRow 0 (.slice none 0 0) (.slice none 0 0) (.slice none 0 0)) 39 (0, 0)) ∧ Chg Non w W := by
  refine ⟨_, CanStore.mk (heap_alloc_new w _) Tryd.size_Book rfl (by simp [Value.oneCell']), rfl, ?_, ((Chg.refl _ _).alloc _).setRow (.inl (Nat.le_refl _)) _⟩
  exact setRow_heap _ _ _ _ _ _ (heap_alloc_new w _)
theorem ba_list (s : ByteArray) : ∃ l : List UInt8, s = ⟨l.toArray⟩ := ⟨s.data.toList, by apply ByteArray.ext; simp⟩
theorem wordsGo_len : ∀ (r cur : List UInt8), (wordsGo cur r).length ≤ cur.length + r.length
  | [], cur => by
    rw [wordsGo]
    by_cases h : cur = []
    · rw [if_pos h]; simp
    · rw [if_neg h]
      have := List.length_pos_iff.2 h
      simp only [List.length_cons, List.length_nil]; omega
  | c :: r, cur => by
    rw [wordsGo]
    by_cases hb : blankB c = true
    · rw [if_pos hb]
      by_cases h : cur = []
      · rw [if_pos h]
        have := wordsGo_len r []
        simp only [List.length_cons, List.length_nil] at this ⊢; omega
      · rw [if_neg h]
        have h1 := List.length_pos_iff.2 h
        have := wordsGo_len r []
        simp only [List.length_cons, List.length_nil] at this ⊢; omega
    · rw [if_neg hb]
      have := wordsGo_len r (cur ++ [c])
      simp only [List.length_append, List.length_cons, List.length_nil] at this ⊢; omega
theorem blkZ_at {x : Nat} {a : Addr} {c : Nat} (h : some x = blkZ (some a) c) : x = a.block := by
  unfold blkZ at h
  split at h
  · cases h
  · simpa [blk] using h
theorem Words_to {l : List UInt8} {W : List (List UInt8)} (hW : words l = W) {n : Nat} (hn : W.length = n) (hl : l.length ≤ 1000000000) (w : World) : Calls Tryd.prog 5 #[.string ⟨l.toArray⟩] w fun e w' => ∃ A, e = .returned (.slice (some ⟨A, 0, none⟩) n n) ∧
    Own w' w.heap.size 9 1 (some ⟨A, 0, none⟩) n n (W.map tv) ∧ Chg Non w w' := by subst hW; subst hn; exact Words_any l hl w
theorem refWords_to {l : List UInt8} {W : List (List UInt8)} (hW : words l = W) {n : Nat} (hn : W.length = n) (hl : l.length ≤ 1048576) (w : World) : Calls Tryd.prog 7 #[.string ⟨l.toArray⟩] w fun e w' => ∃ oa oc, e = .returned (.slice oa n oc) ∧ Own w' w.heap.size 9 1 oa n oc (W.map tv) ∧ Chg Non w w' := by subst hW; subst hn; exact refWords_any l hl w
theorem SameTexts_yes {w : World} {b1 b2 : Nat} {a1 a2 : Option Addr} {n1 c1 n2 c2 : Nat} {xs : List (List UInt8)} (h1 : RdV w b1 a1 n1 c1 (xs.map tv)) (h2 : RdV w b2 a2 n2 c2 (xs.map tv)) :
    Calls Tryd.prog 6 #[.slice a1 n1 c1, .slice a2 n2 c2] w fun e w' => e = .returned (.bool true) ∧ ∃ q, w' = w.drewN q := by
  refine Calls.mono (SameTexts_any h1 h2) ?_
  rintro e w' ⟨rfl, h⟩
  exact ⟨by simp, h⟩
attribute [local go_sem ↓] run_load_row_op run_store_row_op in
set_option maxRecDepth 40000 in
set_option maxHeartbeats 4000000 in
theorem LinesWords_any {w : World} (t : List UInt8) (ht : t.length ≤ reachBytes) :
    Calls Tryd.prog 3 #[.string ⟨t.toArray⟩] w fun e w' => e = .returned (.bool true) ∧ Below w.heap.size w w' := by
  unfold reachBytes at ht
  obtain ⟨n, hn⟩ : ∃ n, t.length = n := ⟨_, rfl⟩
  have HN := Lib.hid hn
  rw [hn] at ht
  have hsz : (⟨t.toArray⟩ : ByteArray).size = n := by rw [sizeL]; exact hn
  have hm : n ≤ 9223372036854775807 := by omega
  have CB : Hid (Chg Non w (w.alloc (.cells #[.int .i64 (n : Int)] 3))) := Lib.hid ((Chg.refl _ _).alloc _)
  by_cases hb : 1048576 < n
  · go_enter Tryd.func3, Tryd.ntmps3
    go_wp2_with fail
    refine Calls.mono (Beyond_one (by rw [cell_of_row _ _ 0 _ _ _ (heap_alloc_new _ _)]; rfl) hm) ?_
    rintro e w1 ⟨rfl, rfl⟩
    go_wp2_with fail
    go_ret
    exact ⟨rfl, CB.out.belowN⟩
  · go_enter Tryd.func3, Tryd.ntmps3
    go_wp2_with fail
    refine Calls.mono (Beyond_one (by rw [cell_of_row _ _ 0 _ _ _ (heap_alloc_new _ _)]; rfl) hm) ?_
    rintro e w1 ⟨rfl, rfl⟩
    obtain ⟨W, hW⟩ : ∃ W, words t = W := ⟨_, rfl⟩
    obtain ⟨m, hm2⟩ : ∃ m, W.length = m := ⟨_, rfl⟩
    have ML : Hid (m ≤ 1048576) := Lib.hid (by
      have := wordsGo_len t []
      rw [show wordsGo [] t = W from hW] at this
      simp at this; omega)
    have HW := Lib.hid hW; have HM := Lib.hid hm2
    clear hW hm2 hn hsz
    obtain ⟨w1, hw1⟩ : ∃ w1, w1 = w.alloc (.cells #[.int .i64 (n : Int)] 3) := ⟨_, rfl⟩
    rw [← hw1] at CB ⊢
    clear hw1
    go_wp2_with fail
    refine Calls.mono (Words_to HW.out HM.out (by have := HN.out; omega) _) ?_
    rintro e w2 ⟨A2, rfl, ho2, hc2⟩
    have O2 := Lib.hid (ho2.mono CB.out.size); have L2 := Lib.hid (Own.lt ho2); have C2 := Lib.hid (CB.out.trans hc2)
    clear ho2 hc2
    go_wp2_with fail
    refine Calls.mono (Words_to HW.out HM.out (by have := HN.out; omega) _) ?_
    rintro e w3 ⟨A3, rfl, ho3, hc3⟩
    have O3 := Lib.hid (ho3.mono C2.out.size); have L3 := Lib.hid (Own.lt ho3); have P3 := Lib.hid (O2.out.chg hc3 (fun _ _ h => h)); have C3 := Lib.hid (C2.out.trans hc3)
    clear ho3 hc3
    go_wp2_with fail
    refine Calls.mono (refWords_to HW.out HM.out (by have := HN.out; omega) _) ?_
    rintro e w4 ⟨a4, c4, rfl, ho4, hc4⟩
    have O4 := Lib.hid (O3.out.chg hc4 (fun _ _ h => h)); have P4 := Lib.hid (P3.out.chg hc4 (fun _ _ h => h)); have C4 := Lib.hid (C3.out.trans hc4)
    obtain ⟨b1, _, r1⟩ := RdV.of_Own P4.out
    obtain ⟨b2, _, r2⟩ := RdV.of_Own O4.out
    obtain ⟨b3, _, r3⟩ := RdV.of_Own ho4
    have R1 := Lib.hid r1; have R2 := Lib.hid r2; have R3 := Lib.hid r3
    clear ho4 hc4 r1 r2 r3
    go_wp2_with fail
    refine Calls.mono (SameTexts_yes R1.out R3.out) ?_
    rintro e w5 ⟨rfl, q5, rfl⟩
    go_wp2_with fail
    refine Calls.mono (SameTexts_yes (R2.out.drewN q5) (R1.out.drewN q5)) ?_
    rintro e w6 ⟨rfl, q6, rfl⟩
    go_upto_region 7 with (fail)
    obtain ⟨w7, hw7⟩ : ∃ w7, w7 = w4.drewN (q5 + q6) := ⟨_, rfl⟩
    have K7 : Hid (Chg Non w4 w7) := Lib.hid (by rw [hw7]; exact (Chg.refl _ _).drewN _)
    rw [← hw7]
    clear hw7
    obtain ⟨W8, p8, q8, e8, c8⟩ := newBook w7
    have K8 := Lib.hid (K7.out.trans c8)
    have C8 := Lib.hid (C4.out.trans K8.out)
    have O8 := Lib.hid (OwnZ.chg (.inl O4.out) K8.out (fun _ _ h => h)); have P8 := Lib.hid (OwnZ.chg (.inl P4.out) K8.out (fun _ _ h => h))
    have B8 := Lib.hid (BookB.start2 e8 C8.out (Nat.le_trans C4.out.size K7.out.size))
    have S8 : Hid (A2 < A3) := Lib.hid (by have h1 := (L2.out A2 rfl).2; have h2 := (L3.out A3 rfl).1; omega)
    clear e8 c8
    go_wp2_with fail
    refine Calls.mono (Texts_book B8.out (by simp) P8.out (by have := ML.out; omega) (by simp)) ?_
    rintro e w9 ⟨⟨v9, rfl⟩, hb9, hc9⟩
    have B9 := Lib.hid hb9
    have O9 := Lib.hid (O8.out.chg hc9 (BS.not_ownZ O8.out (by decide) (by decide)))
    clear hb9 hc9
    go_wp2_with fail
    refine Calls.mono (Texts_book B9.out (by simp) O9.out (by have := ML.out; omega) (fun q hq g hg e => by
      simp only [List.nil_append, List.mem_singleton] at hg
      subst hg
      have h1 := S8.out
      have h2 : q = A3 := blkZ_at hq
      have h3 : q = A2 := blkZ_at e
      omega)) ?_
    rintro e w10 ⟨⟨v10, rfl⟩, hb10, hc10⟩
    have B10 := Lib.hid hb10
    clear hb10 hc10
    go_wp2_with (go_at_call 9; refine Calls.mono (Apart_book B10.out (by simp)) ?_; rintro e w11 ⟨rfl, hc11⟩; have C11 := Lib.hid hc11; clear hc11)
    go_ret
    exact ⟨rfl, C11.out.belowN⟩
end Go.Proofs.YtjjppbfknjeddaaDoor
