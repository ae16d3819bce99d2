/- Some answers that the document fixes. -/
import Derived.Test.YtdiabilcamomcaaLedMade
import Derived.Deep.RegionHeld3
namespace Go.Proofs.Ytdiabilcamomcaa
open Go.RowKit
set_option linter.unusedVariables false
set_option linter.unusedSimpArgs false
set_option maxRecDepth 20000 in
set_option maxHeartbeats 1000000 in
theorem alive_any (w : World) : Calls Try.prog 22 #[] w fun e w' => e = .returned (.bool true) ∧ Chg Non w w' := by
  obtain ⟨i0, hi, hz0, hz1, hz2⟩ := info_parts Try.info_ten
  have Hi := Lib.hid hi; clear hi
  have Hz0 := Lib.hid hz0; clear hz0
  have Hz1 := Lib.hid hz1; clear hz1
  have Hz2 := Lib.hid hz2; clear hz2
  go_enter Try.func22, Try.ntmps22
  go_wp2_with fail
  refine Calls.mono two_any ?_
  rintro e w1 ⟨rfl, hw1⟩
  have hc1 : Chg Non w w1 := by rw [hw1]; exact (Chg.refl _ _).alloc _
  have ht1 : Tens w1 (some ⟨w.heap.size, 0, none⟩) 2 2 [ann, bob] := two_tens (by rw [hw1]; exact heap_alloc_new w _)
  have C1 := Lib.hid hc1; have T1 := Lib.hid ht1; clear hc1 ht1 hw1
  go_wp2_with fail
  refine Calls.mono (New_may T1.out ok_two may_two) ?_
  rintro e w2 ⟨hc, p, m, A, rfl, hl, hb⟩
  have C2 := Lib.hid (C1.out.trans hc); have L2 := Lib.hid hl; have B2 : Hid (∀ k, ledBlk p m A k → w.heap.size ≤ k) := fun k hk => Nat.le_trans C1.out.size (hb k hk)
  clear hc hl hb
  go_wp2_with fail
  refine Calls.mono (New_not (tens_nil w2) (fun i hi => by omega) not_may_nil) ?_
  rintro e w3 ⟨rfl, hc⟩
  have L3 := Lib.hid (L2.out.non hc); have C3 := Lib.hid (C2.out.trans hc)
  clear hc L2 C2
  obtain ⟨w5, hw5⟩ : ∃ w5, w5 = (w3.alloc twoObj).alloc twoObj := ⟨_, rfl⟩
  have hc5 : Chg Non w3 w5 := by rw [hw5]; exact ((Chg.refl _ _).alloc _).alloc _
  have hg5 : w5.heap[w3.heap.size + 1]? = some twoObj := by rw [hw5]; exact heap_alloc2_new w3 _ _
  have hg5' : w5.heap[w3.heap.size]? = some twoObj := by rw [hw5]; exact heap_alloc2_old w3 _ _
  have hown : Own w5 w3.heap.size 28 3 (some ⟨w3.heap.size, 0, none⟩) 2 2 _ := Own.of_block hg5' (Nat.le_refl _) (Nat.le_refl _) (by decide) (by decide)
  have y0 : w5.cell? ⟨w3.heap.size + 1, 0, none⟩ = some (.string { data := #[97, 110, 110] }) := by rw [cell_of_row w5 _ _ _ _ _ hg5]; rfl
  have y1 : w5.cell? ⟨w3.heap.size + 1, 1, none⟩ = some (.string { data := #[107] }) := by rw [cell_of_row w5 _ _ _ _ _ hg5]; rfl
  have y2 : w5.cell? ⟨w3.heap.size + 1, 2, none⟩ = some (.int .i64 5) := by rw [cell_of_row w5 _ _ _ _ _ hg5]; rfl
  have C5 := Lib.hid hc5; have OWN := Lib.hid hown; have W5 := Lib.hid hw5
  clear hg5 hg5' hown hc5 hw5
  go_wp2_with (first
    | (go_at_call 29; refine Calls.mono two_any ?_; rintro e w' ⟨rfl, rfl⟩; try rw [← W5.out])
    | (at_builtin; refine wpList_append_Own rfl _ _ 37 37 rfl w3.heap.size 28 3 40 i0 _ Try.underlying37 Hi.out Hz0.out Hz1.out rfl Hz2.out (some ⟨w3.heap.size, 0, none⟩) 2 2 _ rfl (OWN.out.alloc _) _ 1 _ rfl (Src.cells Try.underlying37 (heap_alloc_new _ _) 1 3 1 (by rfl) (by simp [Value.oneCell'])) (by unfold maxLen; omega) (by omega) (by simp; have := C5.out.size; omega) ?_))
  intro ao6 cap6 w6 hown6 hchg6 _
  have hc6 : Chg Non w3 w6 := (C5.out.alloc _).trans hchg6
  have T6 := Lib.hid (tens3 hown6)
  have L6 := Lib.hid (L3.out.non hc6); have C6 := Lib.hid (C3.out.trans hc6)
  clear hown6 hchg6 hc6 C5 W5 OWN L3 C3 y0 y1 y2
  go_wp2_with fail
  refine Calls.mono (New_not T6.out ok_three not_may_twice) ?_
  rintro e w7 ⟨rfl, hc⟩
  have L7 := Lib.hid (L6.out.non hc); have C7 := Lib.hid (C6.out.trans hc)
  clear hc L6 C6 T6
  have hA2 : A.length = 2 := L7.out.len
  have I0 : Hid (inA A 0) := ⟨by omega, by rw [hA2]; omega⟩
  have I1 : Hid (inA A 1) := ⟨by omega, by rw [hA2]; omega⟩
  have I2 : Hid (¬ inA A 2) := fun h => by have := h.2; rw [hA2] at this; omega
  go_wp2_with fail
  refine Calls.mono (left_v L7.out I0.out rfl) ?_
  rintro e w' ⟨rfl, rfl⟩
  go_wp2_with fail
  refine Calls.mono (Tick_yes L7.out) ?_
  rintro e w8 ⟨rfl, hl, hc⟩
  have L8 : Hid (LedAt w8 p m A [ann, bob] (rates [ann, bob])) := hl
  have C8 : Hid (Chg Non w w8) := C7.out.next hc fun i hi ⟨j, hj, e⟩ => by have := B2.out i (.inr (.inr ⟨j, hj, e⟩)); omega
  clear hl hc L7 C7
  go_wp2_with fail
  refine Calls.mono (left_v L8.out I0.out (v := 5) rfl) ?_
  rintro e w' ⟨rfl, rfl⟩
  have LO : Hid (LOk (rates [ann, bob])) := lok_two
  go_wp2_with fail
  refine Calls.mono (spend_ok L8.out LO.out I0.out (by omega) (by decide)) ?_
  rintro e w9 ⟨rfl, hl, hc⟩
  have L9 : Hid (LedAt w9 p m A [ann, bob] (upd (rates [ann, bob]) 0 2)) := hl
  have C9 : Hid (Chg Non w w9) := C8.out.next hc fun i hi ⟨j, hj, e⟩ => by have := B2.out i (.inr (.inr ⟨j, hj, e⟩)); omega
  clear hl hc L8 C8 LO
  have LO : Hid (LOk (upd (rates [ann, bob]) 0 2)) := lok_two2
  go_wp2_with fail
  refine Calls.mono (Find_yes L9.out _) ?_
  rintro e wA ⟨hc, h⟩
  have LA := Lib.hid (L9.out.non hc); have CA := Lib.hid (C9.out.trans hc)
  obtain rfl := find_bob hA2 h
  clear hc h L9 C9
  unfold Ten.val bob
  go_wp2_with fail
  refine Calls.mono (Find_yes (LA.out.non ((Chg.refl _ _).alloc _)) _) ?_
  rintro e wB ⟨hc, h⟩
  have hBc := ((Chg.refl Non wA).alloc (.cells #[.string { data := #[98, 111, 98] }, .string { data := #[107] }, .int .i64 2] 28)).trans hc
  have LB := Lib.hid (LA.out.non hBc); have CB := Lib.hid (CA.out.trans hBc)
  have hgB : wB.heap[wA.heap.size]? = some (.cells #[.string { data := #[98, 111, 98] }, .string { data := #[107] }, .int .i64 2] 28 (0, 0)) := (hc.block _ (by simp) (fun h => h)).trans (heap_alloc_new _ _)
  obtain rfl := find_eve hA2 h
  obtain ⟨wd, hwd⟩ : ∃ wd, wd = wB.alloc (.cells #[.string { data := #[] }, .string { data := #[] }, .int .i64 0] 28) := ⟨_, rfl⟩
  have hBd : Chg Non wB wd := by rw [hwd]; exact (Chg.refl _ _).alloc _
  have hlw : ∀ w', Chg Non wd w' → LedAt w' p m A [ann, bob] (upd (rates [ann, bob]) 0 2) := fun w' h => LB.out.non (hBd.trans h)
  have hcd := CB.out.trans hBd
  have hx : ∀ k, k < 3 → ∀ w', Chg Non wd w' → w'.cell? ⟨wA.heap.size, k, none⟩ = some (#[Value.string { data := #[98, 111, 98] }, .string { data := #[107] }, .int .i64 2].toList.getD k undef) := by
    intro k hk w' h
    have h1 : w'.heap[wA.heap.size]? = some (.cells #[.string { data := #[98, 111, 98] }, .string { data := #[107] }, .int .i64 2] 28 (0, 0)) := by
      have hlt := (Array.getElem?_eq_some_iff.1 hgB).1
      rw [(hBd.trans h).block _ hlt (fun h => h)]; exact hgB
    rw [cell_of_row w' _ _ _ _ _ h1]
    match k, hk with
    | 0, _ => rfl
    | 1, _ => rfl
    | 2, _ => rfl
  have x0 := hx 0 (by omega)
  have x1 := hx 1 (by omega)
  have x2 := hx 2 (by omega)
  simp only [List.getD] at x0 x1 x2
  have LW := Lib.hid hlw; have CD := Lib.hid hcd; have WD := Lib.hid hwd
  clear hc h LA CA LB CB hBc hgB hBd hwd hlw hcd hx
  have e0 : upd (rates [ann, bob]) 0 2 (Int.toNat 0) = 2 := rfl
  have e1 : upd (rates [ann, bob]) 0 2 (Int.toNat 1) = 2 := rfl
  have e3 : upd (rates [ann, bob]) 0 2 (Int.toNat 0) < 3 := by rw [e0]; decide
  have hc0 : ∀ w', Chg Non wd w' → Calls Try.prog 24 #[.pointer (some ⟨p, 0, none⟩), .int .i64 0] w' fun e w2 => e = .returned (.int .i64 2) ∧ w' = w2 := fun w' h => left_v (LW.out w' h) I0.out e0
  have hc1 : ∀ w', Chg Non wd w' → Calls Try.prog 24 #[.pointer (some ⟨p, 0, none⟩), .int .i64 1] w' fun e w2 => e = .returned (.int .i64 2) ∧ w' = w2 := fun w' h => left_v (LW.out w' h) I1.out e1
  have hc2 : ∀ w', Chg Non wd w' → Calls Try.prog 12 #[.pointer (some ⟨p, 0, none⟩), .int .i64 0, .int .i64 3] w' fun e w2 => e = .returned (.int .i64 3) ∧ w' = w2 := fun w' h => spend_limit (LW.out w' h) LO.out I0.out (by omega) e3
  have hc3 : ∀ w', Chg Non wd w' → Calls Try.prog 12 #[.pointer (some ⟨p, 0, none⟩), .int .i64 2, .int .i64 1] w' fun e w2 => e = .returned (.int .i64 1) ∧ w' = w2 := fun w' h => spend_arg (LW.out w' h) LO.out (.inl I2.out)
  have hc4 : ∀ w', Chg Non wd w' → Calls Try.prog 12 #[.pointer (some ⟨p, 0, none⟩), .int .i64 0, .int .i64 (-1)] w' fun e w2 => e = .returned (.int .i64 1) ∧ w' = w2 := fun w' h => spend_arg (LW.out w' h) LO.out (.inr (by omega))
  have HC0 := Lib.hid hc0; have HC1 := Lib.hid hc1; have HC2 := Lib.hid hc2; have HC3 := Lib.hid hc3; have HC4 := Lib.hid hc4
  clear hc0 hc1 hc2 hc3 hc4 e0 e1 e3 LW LO I0 I1 I2 hA2 B2
  unfold Ten.val tz
  go_wp2_with fail
  rw [← WD.out]
  refine wp_region_noPanic ?_
  refine wp_region_held_drew (S := fun w' => Chg Non wd w') (by kernel_rfl) ((Chg.refl _ _).drew) (fun hHeld => ?_)
  refine wpAnyH_take (i := 0) (v := ?_) (by simp only [List.getElem?_toArray, List.getElem?_cons_succ, List.getElem?_cons_zero]; rfl) (by kernel_rfl) (by kernel_rfl) (by kernel_rfl) (fun _ _ _ h => h) (Or.inl ⟨by rfl, ?_⟩) (by assumption) ?_
  rotate_left
  · intro w hSw; go_simp; try with_reducible rfl
  (try simp only [Act.put, List.setIfInBounds_toArray, List.set_cons_zero, List.set_cons_succ])
  refine wpAnyH_ready (rs := [1]) (by kernel_rfl) (by simp) ?_
  refine AllReadyH.cons (by simp only [List.getElem?_toArray, List.getElem?_cons_succ, List.getElem?_cons_zero]; rfl) (fun K hK => ?_) AllReadyH.nil
  go_simp
  go_at_call 24
  refine Calls.mono (HC0.out _ (by simp)) ?_
  rintro e w' ⟨rfl, rfl⟩
  go_wp2_with fail
  refine hK.out _ _ ((Chg.refl _ _).drew) (fun hHeld => ?_)
  clear hK K
  (try simp only [Act.put, List.setIfInBounds_toArray, List.set_cons_zero, List.set_cons_succ])
  refine wpAnyH_take (i := 2) (v := ?_) (by simp only [List.getElem?_toArray, List.getElem?_cons_succ, List.getElem?_cons_zero]; rfl) (by kernel_rfl) (by kernel_rfl) (by kernel_rfl) (fun _ _ _ h => h) (Or.inl ⟨by rfl, ?_⟩) (by assumption) ?_
  rotate_left
  · intro w hSw; go_simp; try with_reducible rfl
  (try simp only [Act.put, List.setIfInBounds_toArray, List.set_cons_zero, List.set_cons_succ])
  refine wpAnyH_take (i := 3) (v := ?_) (by simp only [List.getElem?_toArray, List.getElem?_cons_succ, List.getElem?_cons_zero]; rfl) (by kernel_rfl) (by kernel_rfl) (by kernel_rfl) (fun _ _ _ h => h) (Or.inl ⟨by rfl, ?_⟩) (by assumption) ?_
  rotate_left
  · intro w hSw; go_simp; try with_reducible rfl
  (try simp only [Act.put, List.setIfInBounds_toArray, List.set_cons_zero, List.set_cons_succ])
  refine wpAnyH_take (i := 4) (v := ?_) (by simp only [List.getElem?_toArray, List.getElem?_cons_succ, List.getElem?_cons_zero]; rfl) (by kernel_rfl) (by kernel_rfl) (by kernel_rfl) (fun _ _ _ h => h) (Or.inl ⟨by rfl, ?_⟩) (by assumption) ?_
  rotate_left
  · intro w hSw; go_simp; try with_reducible rfl
  (try simp only [Act.put, List.setIfInBounds_toArray, List.set_cons_zero, List.set_cons_succ])
  refine wpAnyH_ready (rs := [5]) (by kernel_rfl) (by simp) ?_
  refine AllReadyH.cons (by simp only [List.getElem?_toArray, List.getElem?_cons_succ, List.getElem?_cons_zero]; rfl) (fun K hK => ?_) AllReadyH.nil
  go_simp
  go_at_call 24
  refine Calls.mono (HC1.out _ (by simp)) ?_
  rintro e w' ⟨rfl, rfl⟩
  go_wp2_with fail
  refine hK.out _ _ ((Chg.refl _ _).drew) (fun hHeld => ?_)
  clear hK K
  (try simp only [Act.put, List.setIfInBounds_toArray, List.set_cons_zero, List.set_cons_succ])
  refine wpAnyH_take (i := 6) (v := ?_) (by simp only [List.getElem?_toArray, List.getElem?_cons_succ, List.getElem?_cons_zero]; rfl) (by kernel_rfl) (by kernel_rfl) (by kernel_rfl) (fun _ _ _ h => h) (Or.inl ⟨by rfl, ?_⟩) (by assumption) ?_
  rotate_left
  · intro w hSw; go_simp; try with_reducible rfl
  (try simp only [Act.put, List.setIfInBounds_toArray, List.set_cons_zero, List.set_cons_succ])
  refine wpAnyH_take (i := 7) (v := ?_) (by simp only [List.getElem?_toArray, List.getElem?_cons_succ, List.getElem?_cons_zero]; rfl) (by kernel_rfl) (by kernel_rfl) (by kernel_rfl) (fun _ _ _ h => h) (Or.inl ⟨by rfl, ?_⟩) (by assumption) ?_
  rotate_left
  · intro w hSw; go_simp; try with_reducible rfl
  (try simp only [Act.put, List.setIfInBounds_toArray, List.set_cons_zero, List.set_cons_succ])
  refine wpAnyH_take (i := 8) (v := ?_) (by simp only [List.getElem?_toArray, List.getElem?_cons_succ, List.getElem?_cons_zero]; rfl) (by kernel_rfl) (by kernel_rfl) (by kernel_rfl) (fun _ _ _ h => h) (Or.inl ⟨by rfl, ?_⟩) (by assumption) ?_
  rotate_left
  · intro w hSw; go_simp; try with_reducible rfl
  (try simp only [Act.put, List.setIfInBounds_toArray, List.set_cons_zero, List.set_cons_succ])
  refine wpAnyH_take (i := 9) (v := ?_) (by simp only [List.getElem?_toArray, List.getElem?_cons_succ, List.getElem?_cons_zero]; rfl) (by kernel_rfl) (by kernel_rfl) (by kernel_rfl) (fun _ _ _ h => h) (Or.inl ⟨by rfl, ?_⟩) (by assumption) ?_
  rotate_left
  · intro w hSw; go_simp; try with_reducible rfl
  (try simp only [Act.put, List.setIfInBounds_toArray, List.set_cons_zero, List.set_cons_succ])
  refine wpAnyH_ready (rs := [10]) (by kernel_rfl) (by simp) ?_
  refine AllReadyH.cons (by simp only [List.getElem?_toArray, List.getElem?_cons_succ, List.getElem?_cons_zero]; rfl) (fun K hK => ?_) AllReadyH.nil
  go_simp
  go_at_call 12
  refine Calls.mono (HC2.out _ (by simp)) ?_
  rintro e w' ⟨rfl, rfl⟩
  go_wp2_with fail
  refine hK.out _ _ ((Chg.refl _ _).drew) (fun hHeld => ?_)
  clear hK K
  (try simp only [Act.put, List.setIfInBounds_toArray, List.set_cons_zero, List.set_cons_succ])
  refine wpAnyH_take (i := 11) (v := ?_) (by simp only [List.getElem?_toArray, List.getElem?_cons_succ, List.getElem?_cons_zero]; rfl) (by kernel_rfl) (by kernel_rfl) (by kernel_rfl) (fun _ _ _ h => h) (Or.inl ⟨by rfl, ?_⟩) (by assumption) ?_
  rotate_left
  · intro w hSw; go_simp; try with_reducible rfl
  (try simp only [Act.put, List.setIfInBounds_toArray, List.set_cons_zero, List.set_cons_succ])
  refine wpAnyH_take (i := 12) (v := ?_) (by simp only [List.getElem?_toArray, List.getElem?_cons_succ, List.getElem?_cons_zero]; rfl) (by kernel_rfl) (by kernel_rfl) (by kernel_rfl) (fun _ _ _ h => h) (Or.inl ⟨by rfl, ?_⟩) (by assumption) ?_
  rotate_left
  · intro w hSw; go_simp; try with_reducible rfl
  (try simp only [Act.put, List.setIfInBounds_toArray, List.set_cons_zero, List.set_cons_succ])
  refine wpAnyH_take (i := 13) (v := ?_) (by simp only [List.getElem?_toArray, List.getElem?_cons_succ, List.getElem?_cons_zero]; rfl) (by kernel_rfl) (by kernel_rfl) (by kernel_rfl) (fun _ _ _ h => h) (Or.inl ⟨by rfl, ?_⟩) (by assumption) ?_
  rotate_left
  · intro w hSw; go_simp; try with_reducible rfl
  (try simp only [Act.put, List.setIfInBounds_toArray, List.set_cons_zero, List.set_cons_succ])
  refine wpAnyH_take (i := 14) (v := ?_) (by simp only [List.getElem?_toArray, List.getElem?_cons_succ, List.getElem?_cons_zero]; rfl) (by kernel_rfl) (by kernel_rfl) (by kernel_rfl) (fun _ _ _ h => h) (Or.inl ⟨by rfl, ?_⟩) (by assumption) ?_
  rotate_left
  · intro w hSw; go_simp; try with_reducible rfl
  (try simp only [Act.put, List.setIfInBounds_toArray, List.set_cons_zero, List.set_cons_succ])
  refine wpAnyH_ready (rs := [15]) (by kernel_rfl) (by simp) ?_
  refine AllReadyH.cons (by simp only [List.getElem?_toArray, List.getElem?_cons_succ, List.getElem?_cons_zero]; rfl) (fun K hK => ?_) AllReadyH.nil
  go_simp
  go_at_call 12
  refine Calls.mono (HC3.out _ (by simp)) ?_
  rintro e w' ⟨rfl, rfl⟩
  go_wp2_with fail
  refine hK.out _ _ ((Chg.refl _ _).drew) (fun hHeld => ?_)
  clear hK K
  (try simp only [Act.put, List.setIfInBounds_toArray, List.set_cons_zero, List.set_cons_succ])
  refine wpAnyH_take (i := 16) (v := ?_) (by simp only [List.getElem?_toArray, List.getElem?_cons_succ, List.getElem?_cons_zero]; rfl) (by kernel_rfl) (by kernel_rfl) (by kernel_rfl) (fun _ _ _ h => h) (Or.inl ⟨by rfl, ?_⟩) (by assumption) ?_
  rotate_left
  · intro w hSw; go_simp; try with_reducible rfl
  (try simp only [Act.put, List.setIfInBounds_toArray, List.set_cons_zero, List.set_cons_succ])
  refine wpAnyH_take (i := 17) (v := ?_) (by simp only [List.getElem?_toArray, List.getElem?_cons_succ, List.getElem?_cons_zero]; rfl) (by kernel_rfl) (by kernel_rfl) (by kernel_rfl) (fun _ _ _ h => h) (Or.inl ⟨by rfl, ?_⟩) (by assumption) ?_
  rotate_left
  · intro w hSw; go_simp; try with_reducible rfl
  (try simp only [Act.put, List.setIfInBounds_toArray, List.set_cons_zero, List.set_cons_succ])
  refine wpAnyH_take (i := 18) (v := ?_) (by simp only [List.getElem?_toArray, List.getElem?_cons_succ, List.getElem?_cons_zero]; rfl) (by kernel_rfl) (by kernel_rfl) (by kernel_rfl) (fun _ _ _ h => h) (Or.inl ⟨by rfl, ?_⟩) (by assumption) ?_
  rotate_left
  · intro w hSw; go_simp; try with_reducible rfl
  (try simp only [Act.put, List.setIfInBounds_toArray, List.set_cons_zero, List.set_cons_succ])
  refine wpAnyH_take (i := 19) (v := ?_) (by simp only [List.getElem?_toArray, List.getElem?_cons_succ, List.getElem?_cons_zero]; rfl) (by kernel_rfl) (by kernel_rfl) (by kernel_rfl) (fun _ _ _ h => h) (Or.inl ⟨by rfl, ?_⟩) (by assumption) ?_
  rotate_left
  · intro w hSw; go_simp; try with_reducible rfl
  (try simp only [Act.put, List.setIfInBounds_toArray, List.set_cons_zero, List.set_cons_succ])
  refine wpAnyH_ready (rs := [20]) (by kernel_rfl) (by simp) ?_
  refine AllReadyH.cons (by simp only [List.getElem?_toArray, List.getElem?_cons_succ, List.getElem?_cons_zero]; rfl) (fun K hK => ?_) AllReadyH.nil
  go_simp
  go_at_call 12
  refine Calls.mono (HC4.out _ (by simp)) ?_
  rintro e w' ⟨rfl, rfl⟩
  go_wp2_with fail
  refine hK.out _ _ ((Chg.refl _ _).drew) (fun hHeld => ?_)
  clear hK K
  (try simp only [Act.put, List.setIfInBounds_toArray, List.set_cons_zero, List.set_cons_succ])
  refine wpAnyH_take (i := 21) (v := ?_) (by simp only [List.getElem?_toArray, List.getElem?_cons_succ, List.getElem?_cons_zero]; rfl) (by kernel_rfl) (by kernel_rfl) (by kernel_rfl) (fun _ _ _ h => h) (Or.inl ⟨by rfl, ?_⟩) (by assumption) ?_
  rotate_left
  · intro w hSw; go_simp; try with_reducible rfl
  (try simp only [Act.put, List.setIfInBounds_toArray, List.set_cons_zero, List.set_cons_succ])
  refine wpAnyH_take (i := 22) (v := ?_) (by simp only [List.getElem?_toArray, List.getElem?_cons_succ, List.getElem?_cons_zero]; rfl) (by kernel_rfl) (by kernel_rfl) (by kernel_rfl) (fun _ _ _ h => h) (Or.inl ⟨by rfl, ?_⟩) (by assumption) ?_
  rotate_left
  · intro w hSw; go_simp; try with_reducible rfl
  (try simp only [Act.put, List.setIfInBounds_toArray, List.set_cons_zero, List.set_cons_succ])
  refine wpAnyH_take (i := 23) (v := ?_) (by simp only [List.getElem?_toArray, List.getElem?_cons_succ, List.getElem?_cons_zero]; rfl) (by kernel_rfl) (by kernel_rfl) (by kernel_rfl) (fun _ _ _ h => h) (Or.inl ⟨by rfl, ?_⟩) (by assumption) ?_
  rotate_left
  · intro w hSw; go_simp; try with_reducible rfl
  (try simp only [Act.put, List.setIfInBounds_toArray, List.set_cons_zero, List.set_cons_succ])
  refine wpAnyH_take (i := 24) (v := ?_) (by simp only [List.getElem?_toArray, List.getElem?_cons_succ, List.getElem?_cons_zero]; rfl) (by kernel_rfl) (by kernel_rfl) (by kernel_rfl) (fun _ _ _ h => h) (Or.inl ⟨by rfl, ?_⟩) (by assumption) ?_
  rotate_left
  · intro w hSw; go_simp; try with_reducible rfl
  (try simp only [Act.put, List.setIfInBounds_toArray, List.set_cons_zero, List.set_cons_succ])
  refine wpAnyH_take (i := 25) (v := ?_) (by simp only [List.getElem?_toArray, List.getElem?_cons_succ, List.getElem?_cons_zero]; rfl) (by kernel_rfl) (by kernel_rfl) (by kernel_rfl) (fun _ _ _ h => h) (Or.inl ⟨by rfl, ?_⟩) (by assumption) ?_
  rotate_left
  · intro w hSw; go_simp; try with_reducible rfl
  (try simp only [Act.put, List.setIfInBounds_toArray, List.set_cons_zero, List.set_cons_succ])
  refine wpAnyH_take (i := 26) (v := ?_) (by simp only [List.getElem?_toArray, List.getElem?_cons_succ, List.getElem?_cons_zero]; rfl) (by kernel_rfl) (by kernel_rfl) (by kernel_rfl) (fun _ _ _ h => h) (Or.inl ⟨by rfl, ?_⟩) (by assumption) ?_
  rotate_left
  · intro w hSw; go_simp; try with_reducible rfl
  (try simp only [Act.put, List.setIfInBounds_toArray, List.set_cons_zero, List.set_cons_succ])
  refine wpAnyH_take (i := 27) (v := ?_) (by simp only [List.getElem?_toArray, List.getElem?_cons_succ, List.getElem?_cons_zero]; rfl) (by kernel_rfl) (by kernel_rfl) (by kernel_rfl) (fun _ _ _ h => h) (Or.inl ⟨by rfl, ?_⟩) (by assumption) ?_
  rotate_left
  · intro w hSw; go_simp; try with_reducible rfl
  (try simp only [Act.put, List.setIfInBounds_toArray, List.set_cons_zero, List.set_cons_succ])
  refine wpAnyH_take (i := 28) (v := ?_) (by simp only [List.getElem?_toArray, List.getElem?_cons_succ, List.getElem?_cons_zero]; rfl) (by kernel_rfl) (by kernel_rfl) (by kernel_rfl) (fun _ _ _ h => h) (Or.inl ⟨by rfl, ?_⟩) (by assumption) ?_
  rotate_left
  · intro w hSw; go_simp; try with_reducible rfl
  (try simp only [Act.put, List.setIfInBounds_toArray, List.set_cons_zero, List.set_cons_succ])
  refine wpAnyH_take (i := 29) (v := ?_) (by simp only [List.getElem?_toArray, List.getElem?_cons_succ, List.getElem?_cons_zero]; rfl) (by kernel_rfl) (by kernel_rfl) (by kernel_rfl) (fun _ _ _ h => h) (Or.inl ⟨by rfl, ?_⟩) (by assumption) ?_
  rotate_left
  · intro w hSw; go_simp; try with_reducible rfl
  (try simp only [Act.put, List.setIfInBounds_toArray, List.set_cons_zero, List.set_cons_succ])
  refine wpAnyH_take (i := 30) (v := ?_) (by simp only [List.getElem?_toArray, List.getElem?_cons_succ, List.getElem?_cons_zero]; rfl) (by kernel_rfl) (by kernel_rfl) (by kernel_rfl) (fun _ _ _ h => h) (Or.inl ⟨by rfl, ?_⟩) (by assumption) ?_
  rotate_left
  · intro w hSw; go_simp; try with_reducible rfl
  (try simp only [Act.put, List.setIfInBounds_toArray, List.set_cons_zero, List.set_cons_succ])
  refine wpAnyH_take (i := 31) (v := ?_) (by simp only [List.getElem?_toArray, List.getElem?_cons_succ, List.getElem?_cons_zero]; rfl) (by kernel_rfl) (by kernel_rfl) (by kernel_rfl) (fun _ _ _ h => h) (Or.inl ⟨by rfl, ?_⟩) (by assumption) ?_
  rotate_left
  · intro w hSw; go_simp; try with_reducible rfl
  (try simp only [Act.put, List.setIfInBounds_toArray, List.set_cons_zero, List.set_cons_succ])
  refine wpAnyH_take (i := 32) (v := ?_) (by simp only [List.getElem?_toArray, List.getElem?_cons_succ, List.getElem?_cons_zero]; rfl) (by kernel_rfl) (by kernel_rfl) (by kernel_rfl) (fun _ _ _ h => h) (Or.inl ⟨by rfl, ?_⟩) (by assumption) ?_
  rotate_left
  · intro w hSw; go_simp; try with_reducible rfl
  (try simp only [Act.put, List.setIfInBounds_toArray, List.set_cons_zero, List.set_cons_succ])
  refine wpAnyH_ready (rs := [33]) (by kernel_rfl) (by simp) ?_
  refine AllReadyH.cons (by simp only [List.getElem?_toArray, List.getElem?_cons_succ, List.getElem?_cons_zero]; rfl) (fun K hK => ?_) AllReadyH.nil
  go_simp
  go_at_call 29
  refine Calls.mono two_any ?_
  rintro e w' ⟨rfl, rfl⟩
  go_wp2_with fail
  unfold twoObj
  refine hK.out _ _ ((Chg.refl _ _).drew.alloc _) (fun hHeld => ?_)
  clear hK K
  (try simp only [Act.put, List.setIfInBounds_toArray, List.set_cons_zero, List.set_cons_succ])
  refine wpAnyH_take (i := 34) (v := ?_) (by simp only [List.getElem?_toArray, List.getElem?_cons_succ, List.getElem?_cons_zero]; rfl) (by kernel_rfl) (by kernel_rfl) (by kernel_rfl) (fun _ _ _ h => h) (Or.inl ⟨by rfl, ?_⟩) (by assumption) ?_
  rotate_left
  · intro w hSw; go_simp; try with_reducible rfl
  (try simp only [Act.put, List.setIfInBounds_toArray, List.set_cons_zero, List.set_cons_succ])
  refine wpAnyH_ready (rs := [35]) (by kernel_rfl) (by simp) ?_
  refine AllReadyH.cons (by simp only [List.getElem?_toArray, List.getElem?_cons_succ, List.getElem?_cons_zero]; rfl) (fun K hK => ?_) AllReadyH.nil
  go_simp
  refine hK.out _ _ ((Chg.refl _ _).drew.alloc _) (fun hHeld => ?_)
  clear hK K
  (try simp only [Act.put, List.setIfInBounds_toArray, List.set_cons_zero, List.set_cons_succ])
  refine wpAnyH_take (i := 36) (v := ?_) (by simp only [List.getElem?_toArray, List.getElem?_cons_succ, List.getElem?_cons_zero]; rfl) (by kernel_rfl) (by kernel_rfl) (by kernel_rfl) (fun _ _ _ h => h) (Or.inl ⟨by rfl, ?_⟩) (by assumption) ?_
  rotate_left
  · intro w hSw; go_simp; try with_reducible rfl
  (try simp only [Act.put, List.setIfInBounds_toArray, List.set_cons_zero, List.set_cons_succ])
  refine wpAnyH_take (i := 37) (v := ?_) (by simp only [List.getElem?_toArray, List.getElem?_cons_succ, List.getElem?_cons_zero]; rfl) (by kernel_rfl) (by kernel_rfl) (by kernel_rfl) (fun _ _ _ h => h) (Or.inl ⟨by rfl, ?_⟩) (by assumption) ?_
  rotate_left
  · intro w hSw; go_simp; try with_reducible rfl
  (try simp only [Act.put, List.setIfInBounds_toArray, List.set_cons_zero, List.set_cons_succ])
  refine wpAnyH_take (i := 38) (v := ?_) (by simp only [List.getElem?_toArray, List.getElem?_cons_succ, List.getElem?_cons_zero]; rfl) (by kernel_rfl) (by kernel_rfl) (by kernel_rfl) (fun _ _ _ h => h) (Or.inl ⟨by rfl, ?_⟩) (by assumption) ?_
  rotate_left
  · intro w hSw; go_simp; try with_reducible rfl
  (try simp only [Act.put, List.setIfInBounds_toArray, List.set_cons_zero, List.set_cons_succ])
  refine wpAnyH_take (i := 39) (v := ?_) (by simp only [List.getElem?_toArray, List.getElem?_cons_succ, List.getElem?_cons_zero]; rfl) (by kernel_rfl) (by kernel_rfl) (by kernel_rfl) (fun _ _ _ h => h) (Or.inl ⟨by rfl, ?_⟩) (by assumption) ?_
  rotate_left
  · intro w hSw; go_simp; try with_reducible rfl
  (try simp only [Act.put, List.setIfInBounds_toArray, List.set_cons_zero, List.set_cons_succ])
  refine wpAnyH_take (i := 40) (v := ?_) (by simp only [List.getElem?_toArray, List.getElem?_cons_succ, List.getElem?_cons_zero]; rfl) (by kernel_rfl) (by kernel_rfl) (by kernel_rfl) (fun _ _ _ h => h) (Or.inl ⟨by rfl, ?_⟩) (by assumption) ?_
  rotate_left
  · intro w hSw; go_simp; try with_reducible rfl
  (try simp only [Act.put, List.setIfInBounds_toArray, List.set_cons_zero, List.set_cons_succ])
  refine wpAnyH_take (i := 41) (v := ?_) (by simp only [List.getElem?_toArray, List.getElem?_cons_succ, List.getElem?_cons_zero]; rfl) (by kernel_rfl) (by kernel_rfl) (by kernel_rfl) (fun _ _ _ h => h) (Or.inl ⟨by rfl, ?_⟩) (by assumption) ?_
  rotate_left
  · intro w hSw; go_simp; try with_reducible rfl
  (try simp only [Act.put, List.setIfInBounds_toArray, List.set_cons_zero, List.set_cons_succ])
  refine wpAnyH_take (i := 42) (v := ?_) (by simp only [List.getElem?_toArray, List.getElem?_cons_succ, List.getElem?_cons_zero]; rfl) (by kernel_rfl) (by kernel_rfl) (by kernel_rfl) (fun _ _ _ h => h) (Or.inl ⟨by rfl, ?_⟩) (by assumption) ?_
  rotate_left
  · intro w hSw; go_simp; try with_reducible rfl
  (try simp only [Act.put, List.setIfInBounds_toArray, List.set_cons_zero, List.set_cons_succ])
  refine wpAnyH_done (by kernel_rfl) ?_ _
  refine NoPanic.normal ?_
  go_wp2_with fail
  go_ret
  exact ⟨rfl, (CD.out.drew.alloc _)⟩
end Go.Proofs.Ytdiabilcamomcaa
