/- The document's ledger: how it lies in memory, and what each call on it answers. -/
import Derived.Test.YtdiabilcamomcaaLedNew
import Derived.BigQuiet
namespace Go.Proofs.Ytdiabilcamomcaa
open Go.RowKit
set_option linter.unusedVariables false
set_option linter.unusedSimpArgs false
variable {w w' : World} {q g n cap : Nat} {ao : Option Addr} {T : List Ten} {L : Nat → Int}
/-- The document's ledger at q, what is left in block g. -/
structure RefAt (w : World) (q g : Nat) (ao : Option Addr) (n cap : Nat) (T : List Ten) (L : Nat → Int) : Prop where
  head : w.heap[q]? = some (.cells #[.slice ao n cap, .slice (some ⟨g, 0, none⟩) n n] 68 (0, 0))
  left : w.heap[g]? = some (.cells ((List.range n).map fun j => Value.int .i64 (L j)).toArray 3 (0, 0))
  tens : Tens w ao n cap T
  pos : 1 ≤ n ∧ n ≤ 16
  apart : ∀ a, ao = some a → a.block ≠ g
theorem RefAt.non (h : RefAt w q g ao n cap T L) (hc : Chg Non w w') : RefAt w' q g ao n cap T L :=
  ⟨(hc.block _ (Array.getElem?_eq_some_iff.1 h.head).1 (fun h => h)).trans h.head, (hc.block _ (Array.getElem?_eq_some_iff.1 h.left).1 (fun h => h)).trans h.left, h.tens.non hc, h.pos, h.apart⟩
theorem RefAt.cells (h : RefAt w q g ao n cap T L) : w.cell? ⟨q, 0, none⟩ = some (.slice ao n cap) ∧ w.cell? ⟨q, 1, none⟩ = some (.slice (some ⟨g, 0, none⟩) n n) ∧ ∀ j, j < n → w.cell? ⟨g, j, none⟩ = some (.int .i64 (L j)) ∧ w.frozen? ⟨g, j, none⟩ = false := by
  refine ⟨by rw [cell_of_row w q 0 _ _ _ h.head]; rfl, by rw [cell_of_row w q 1 _ _ _ h.head]; rfl, fun j hj => ⟨?_, frozen_of_row w g j _ _ h.left⟩⟩
  rw [cell_of_row w g j _ _ _ h.left]
  simp [hj]
/-- Is there such a tenant? -/
def inN (n : Nat) (t : Int) : Prop := 0 ≤ t ∧ t < n
theorem refLeft_any (h : RefAt w q g ao n cap T L) (t : Int) : Calls Try.prog 20 #[.pointer (some ⟨q, 0, none⟩), .int .i64 t] w fun e w' => w = w' ∧
    ((inN n t ∧ e = .returned (.tuple #[.int .i64 (L t.toNat), .int .i64 0])) ∨ (¬ inN n t ∧ e = .returned (.tuple #[.int .i64 0, .int .i64 1]))) := by
  obtain ⟨c0, c1, c2⟩ := h.cells
  have hp := h.pos
  clear h
  by_cases hin : 0 ≤ t ∧ t < n
  · obtain ⟨tk, rfl⟩ : ∃ tk : Nat, t = (tk : Int) := ⟨t.toNat, by omega⟩
    have hk : tk < n := by omega
    obtain ⟨y, _⟩ := c2 tk hk
    have HIN : Hid (inN n (tk : Int)) := hin
    clear c2 hin
    go_enter Try.func20, Try.ntmps20
    go_wp2_with fail
    go_ret2
    exact ⟨rfl, .inl ⟨HIN.out, rfl⟩⟩
  · have HIN : Hid (¬ inN n t) := hin
    clear c2
    by_cases hneg : t < 0
    · clear hin
      go_enter Try.func20, Try.ntmps20
      go_wp2_with fail
      go_ret2
      exact ⟨rfl, .inr ⟨HIN.out, rfl⟩⟩
    · have hge : (n : Int) ≤ t := by omega
      clear hin
      go_enter Try.func20, Try.ntmps20
      go_wp2_with fail
      go_ret2
      exact ⟨rfl, .inr ⟨HIN.out, rfl⟩⟩
set_option maxRecDepth 20000 in
theorem refFind_any (h : RefAt w q g ao n cap T L) (s : ByteArray) : Calls Try.prog 21 #[.pointer (some ⟨q, 0, none⟩), .string s] w fun e w' => Chg Non w w' ∧
    ((∃ j, j < n ∧ (nth T j).name = s ∧ e = .returned (.tuple #[(nth T j).val, .int .i64 (j : Int), .int .i64 0])) ∨ ((∀ j, j < n → (nth T j).name ≠ s) ∧ e = .returned (.tuple #[tz.val, .int .i64 0, .int .i64 6]))) := by
  obtain ⟨wa, hwa⟩ : ∃ wa, wa = w.alloc (.cells #[.string { data := #[] }, .string { data := #[] }, .int .i64 0] 28) := ⟨_, rfl⟩
  have hca : Chg Non w wa := by rw [hwa]; exact (Chg.refl _ _).alloc _
  have hres : wa.heap[w.heap.size]? = some (.cells #[.string { data := #[] }, .string { data := #[] }, .int .i64 0] 28 (0, 0)) := by rw [hwa]; exact heap_alloc_new w _
  obtain ⟨r0, r1, r2, f0, f1, f2⟩ := res_cells hres
  have ha := h.non hca
  obtain ⟨c0, c1, _⟩ := ha.cells
  obtain ⟨b, off, rfl, hb, hcell⟩ := ha.tens.2.2.2.2 (by have := h.pos; have := h.tens.2.1; omega)
  have hp := h.pos
  have hcap := h.tens.2.2.1
  have hlc := h.tens.2.1
  unfold maxLen at hcap
  have HC := Lib.hid hcell; have HCA := Lib.hid hca; have HW := Lib.hid hwa
  clear hcell hca hwa ha h hres
  go_enter Try.func21, Try.ntmps21
  go_wp2_with fail
  rw [← HW.out]
  go_loop [7] (fun i => ∃ k : Nat, k ≤ n ∧ i = .int .i64 k ∧ ∀ j, j < k → (nth T j).name ≠ s) (fun i => n - (intOf i).toNat)
  case atStart => exact ⟨0, by omega, rfl, fun j hj => by omega⟩
  case round =>
    obtain ⟨k, hk, rfl, hno⟩ := hrel
    have HN := Lib.hid hno; clear hno
    by_cases hlt : k < n
    · obtain ⟨y0, y1, y2⟩ := HC.out k hlt
      by_cases hnm : (nth T k).name = s
      · have hq := bytes_eq_list.2 hnm
        have HNM := Lib.hid hnm; clear hnm
        go_wp2_with fail
        try simp only [Exit.inBlock, Exit.then]
        refine bodyPost_ret (by simp [results, Try.results21, go_sem, r0, r1, r2]; try rfl) rfl ?_
        exact ⟨((HCA.out.setCell (.inl (Nat.le_refl _)) _).setCell (.inl (Nat.le_refl _)) _).setCell (.inl (Nat.le_refl _)) _, .inl ⟨k, hlt, HNM.out, rfl⟩⟩
      · have hq := bytes_ne_list hnm
        have HNM := Lib.hid hnm; clear hnm
        go_wp2_with fail
        go_round
        case rel =>
          refine ⟨k + 1, by omega, by go_num, fun j hj => ?_⟩
          rcases Nat.lt_succ_iff_lt_or_eq.1 hj with h | rfl
          · exact HN.out j h
          · exact HNM.out
        case measure => simp [intOf]; omega
    · go_wp2_with fail
      try simp only [Exit.inBlock, Exit.then]
      refine bodyPost_ret (by simp [results, Try.results21, go_sem, r0, r1, r2]; try rfl) rfl ?_
      exact ⟨((HCA.out.setCell (.inl (Nat.le_refl _)) _).setCell (.inl (Nat.le_refl _)) _).setCell (.inl (Nat.le_refl _)) _, .inr ⟨fun j hj => HN.out j (by omega), rfl⟩⟩
theorem RefAt.ne (h : RefAt w q g ao n cap T L) : g ≠ q := by
  intro e
  have h1 := h.left
  rw [e, h.head] at h1
  have h2 := congrArg (fun o => match o with | some (Obj.cells _ t _) => t | _ => 0) h1
  revert h2
  simp
theorem RefAt.set (h : RefAt w q g ao n cap T L) {k : Nat} (hk : k < n) (v : Int) : RefAt (w.setCell ⟨g, k, none⟩ (.int .i64 v)) q g ao n cap T (upd L k v) := by
  obtain ⟨t1, t2, t3, t4, t5⟩ := h.tens
  refine ⟨(Below.heap_setCell _ _ _ _ (by simpa using fun e => h.ne e.symm)).trans h.head, ?_, ⟨t1, t2, t3, t4, fun hp => ?_⟩, h.pos, h.apart⟩
  · show (w.heap.modify g _)[g]? = _
    rw [Array.getElem?_modify, if_pos rfl, h.left]
    simp only [Option.map_some]
    congr 2
    apply Array.ext'
    apply List.ext_getElem?
    intro i
    simp only [Array.toList_setIfInBounds, List.getElem?_set, List.length_map, List.length_range, List.getElem?_map]
    unfold upd
    by_cases hi : i < n
    · by_cases e : k = i
      · subst e; simp [hi]
      · simp [hi, e, Ne.symm e]
    · have e : k ≠ i := by omega
      simp [hi, e]
  · obtain ⟨b, off, rfl, hb, hcell⟩ := t5 hp
    have hbg : b ≠ g := h.apart _ rfl
    have hh : (w.setCell ⟨g, k, none⟩ (.int .i64 v)).heap[b]? = w.heap[b]? := Below.heap_setCell _ _ _ _ hbg
    refine ⟨b, off, rfl, by simpa using hb, fun i hi => ?_⟩
    obtain ⟨c0, c1, c2⟩ := hcell i hi
    exact ⟨(World.cell?_of_block (w := w) (a := ⟨b, off + i * 3, none⟩) hh).trans c0, (World.cell?_of_block (w := w) (a := ⟨b, off + i * 3 + 1, none⟩) hh).trans c1, (World.cell?_of_block (w := w) (a := ⟨b, off + i * 3 + 2, none⟩) hh).trans c2⟩
theorem RefAt.congr (h : RefAt w q g ao n cap T L) {L' : Nat → Int} (hL : ∀ j, j < n → L' j = L j) : RefAt w q g ao n cap T L' :=
  ⟨h.head, by rw [h.left]; congr 3; exact List.map_congr_left fun j hj => by rw [hL j (List.mem_range.1 hj)], h.tens, h.pos, h.apart⟩
/-- What spending gives. -/
def RefSpent (e : Ending) (w w' : World) (q g : Nat) (ao : Option Addr) (n cap : Nat) (T : List Ten) (L : Nat → Int) (t m : Int) : Prop :=
  ((¬ inN n t ∨ m < 0) ∧ e = .returned (.int .i64 1) ∧ w = w') ∨ (inN n t ∧ 0 ≤ m ∧ L t.toNat < m ∧ e = .returned (.int .i64 3) ∧ w = w') ∨
    (inN n t ∧ 0 ≤ m ∧ m ≤ L t.toNat ∧ e = .returned (.int .i64 0) ∧ RefAt w' q g ao n cap T (upd L t.toNat (L t.toNat - m)) ∧ Chg (fun k => k = g) w w')
theorem refSpend_any (h : RefAt w q g ao n cap T L) (hL : ∀ j, 0 ≤ L j ∧ L j ≤ 1073741824) (t m : Int) : Calls Try.prog 19 #[.pointer (some ⟨q, 0, none⟩), .int .i64 t, .int .i64 m] w fun e w' => RefSpent e w w' q g ao n cap T L t m := by
  obtain ⟨c0, c1, c2⟩ := h.cells
  have hp := h.pos
  by_cases hin : 0 ≤ t ∧ t < n
  · obtain ⟨tk, rfl⟩ : ∃ tk : Nat, t = (tk : Int) := ⟨t.toNat, by omega⟩
    have hk : tk < n := by omega
    obtain ⟨y, fz⟩ := c2 tk hk
    have hset : ∀ w', Chg Non w w' → ∀ v, RefAt (w'.setCell ⟨g, tk, none⟩ (.int .i64 v)) q g ao n cap T (upd L tk v) := fun w' hc v => (h.non hc).set hk v
    have HS := Lib.hid hset; clear hset
    have HIN : Hid (inN n (tk : Int)) := hin
    have k0 : (0 : Int) ≤ (tk : Int) := by omega
    have k1 : (tk : Int) < (n : Int) := by omega
    have hLt := hL tk
    clear c2 hin hL h
    by_cases hneg : m < 0
    · go_enter Try.func19, Try.ntmps19
      go_wp2_with fail
      go_ret
      exact .inl ⟨.inr hneg, rfl, rfl⟩
    · generalize hl : L tk = l at y hLt
      have HL : Hid (L ((tk : Int).toNat) = l) := (by rw [Int.toNat_natCast]; exact hl)
      clear hl
      by_cases hlim : l < m
      · go_enter Try.func19, Try.ntmps19
        go_wp2_with fail
        go_ret
        exact .inr (.inl ⟨HIN.out, by omega, by rw [HL.out]; exact hlim, rfl, rfl⟩)
      · have hwr : IntKind.i64.wrap (l - m) = l - m := IntWalk.i64_in _ ⟨by omega, by omega⟩
        go_enter Try.func19, Try.ntmps19
        go_wp2_with fail
        go_region
        all_goals go_wp2_with fail
        all_goals go_ret
        all_goals refine .inr (.inr ⟨HIN.out, by omega, by rw [HL.out]; omega, rfl, ?_, ?_⟩)
        all_goals try rw [HL.out]
        all_goals first | exact RefAt.non (HS.out w (Chg.refl _ _) _) ((Chg.refl _ _).drew) | exact (Chg.setCell (S := fun k => k = g) (Chg.refl _ _) (.inr rfl) _).drew
  · have HIN : Hid (¬ inN n t) := hin
    clear c2
    by_cases hneg : t < 0
    · clear hin h hL
      go_enter Try.func19, Try.ntmps19
      go_wp2_with fail
      go_ret
      exact .inl ⟨.inl HIN.out, rfl, rfl⟩
    · have hge : (n : Int) ≤ t := by omega
      clear hin h hL
      go_enter Try.func19, Try.ntmps19
      go_wp2_with fail
      go_ret
      exact .inl ⟨.inl HIN.out, rfl, rfl⟩
/-- What is left when the first k have been ticked. -/
def ticking (T : List Ten) (L : Nat → Int) (k j : Nat) : Int := if j < k then (nth T j).rate else L j
set_option maxRecDepth 20000 in
theorem refTick_any (h : RefAt w q g ao n cap T L) : Calls Try.prog 18 #[.pointer (some ⟨q, 0, none⟩)] w fun e w' => e = .returned (.tuple #[]) ∧ RefAt w' q g ao n cap T (fun j => (nth T j).rate) ∧ Chg (fun k => k = g) w w' := by
  have hp := h.pos
  have hcap := h.tens.2.2.1
  have hlc := h.tens.2.1
  unfold maxLen at hcap
  obtain ⟨b, off, rfl, _⟩ := h.tens.2.2.2.2 (by omega)
  obtain ⟨c0, c1, _⟩ := h.cells
  have H := Lib.hid h; clear h
  go_enter Try.func18, Try.ntmps18
  go_wp2_with fail
  go_loopw [2] (fun i wr => ∃ k : Nat, k ≤ n ∧ i = .int .i64 k ∧ RefAt wr q g (some ⟨b, off, none⟩) n cap T (ticking T L k) ∧ Chg (fun k => k = g) w wr) (fun i _ => n - (intOf i).toNat)
  case atStart => exact ⟨0, by omega, rfl, H.out.congr fun j hj => by simp [ticking], Chg.refl _ _⟩
  case round =>
    obtain ⟨k, hk, rfl, hr, hc⟩ := hrel
    obtain ⟨d0, d1, dl⟩ := hr.cells
    obtain ⟨b', off', hao, hb, hcell⟩ := hr.tens.2.2.2.2 (by omega)
    cases hao
    by_cases hlt : k < n
    · obtain ⟨_, _, y2⟩ := hcell k hlt
      obtain ⟨yl, fz⟩ := dl k hlt
      have hset : RefAt (wr.setCell ⟨g, k, none⟩ (.int .i64 (nth T k).rate)) q g (some ⟨b, off, none⟩) n cap T (ticking T L (k + 1)) := (hr.set hlt _).congr fun j hj => by
        show ticking T L (k + 1) j = if j = k then (nth T k).rate else ticking T L k j
        by_cases e : j = k
        · subst e; simp [ticking]
        · rw [if_neg e]
          unfold ticking
          by_cases e2 : j < k
          · rw [if_pos e2, if_pos (by omega)]
          · rw [if_neg e2, if_neg (by omega)]
      have hch : Chg (fun k => k = g) w (wr.setCell ⟨g, k, none⟩ (.int .i64 (nth T k).rate)) := Chg.setCell hc (.inr rfl) _
      have HS := Lib.hid hset; have HCH := Lib.hid hch
      have k0 : (0 : Int) ≤ (k : Int) := by omega
      have k1 : (k : Int) < (n : Int) := by omega
      clear hset hch hr hc dl hcell c0 c1
      go_wp2_with fail
      go_region
      all_goals go_wp2_with fail
      all_goals go_roundw
      all_goals first
        | exact ⟨k + 1, by omega, by go_num, RefAt.non HS.out ((Chg.refl _ _).drew), HCH.out.drew⟩
        | (simp [intOf]; omega)
    · have HR := Lib.hid hr; have HC := Lib.hid hc
      clear hr hc dl hcell c0 c1
      go_wp2_with fail
      go_returns
      exact ⟨rfl, HR.out.congr fun j hj => by rw [ticking, if_pos (by omega)], HC.out⟩
end Go.Proofs.Ytdiabilcamomcaa
