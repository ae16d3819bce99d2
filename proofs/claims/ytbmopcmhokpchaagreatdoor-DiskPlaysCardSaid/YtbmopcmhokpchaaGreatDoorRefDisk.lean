/- The document's disk: walked. -/
import Derived.Test.YtbmopcmhokpchaaGreatDoorDisk
import Derived.Test.YtbmopcmhokpchaaGreatDoorDiskLives
import Derived.Test.YtbmopcmhokpchaaGreatDoorDiskJoins
import Derived.Test.YtbmopcmhokpchaaGreatDoorBookP
namespace Go.Proofs.YtbmopcmhokpchaaGreatDoor
open Go.RowKit
set_option linter.unusedVariables false
set_option linter.unusedSimpArgs false
attribute [local go_sem ↓] Go.wp_at_zero Go.wp_at_succ
structure MD (w : World) (B p : Nat) (am : Option Addr) (m cm size sure : Nat) (bs : List UInt8) : Prop where
  len : bs.length = m
  hp : w.heap[p]? = some (.cells #[.int .i64 size, .slice am m cm, .int .i64 sure] 79 (0, 0))
  own : Own w B 5 1 am m cm (bs.map bv)
  sure_le : sure ≤ m
  le : m ≤ size
  max : size ≤ 16777216
  base : B ≤ p
theorem MD.c0 {w : World} {B p : Nat} {am : Option Addr} {m cm size sure : Nat} {bs : List UInt8} (h : MD w B p am m cm size sure bs) : w.cell? ⟨p, 0, none⟩ = some (.int .i64 size) := by rw [cell_of_row w p 0 _ _ _ h.hp]; rfl
theorem MD.c1 {w : World} {B p : Nat} {am : Option Addr} {m cm size sure : Nat} {bs : List UInt8} (h : MD w B p am m cm size sure bs) : w.cell? ⟨p, 1, none⟩ = some (.slice am m cm) := by rw [cell_of_row w p 1 _ _ _ h.hp]; rfl
theorem MD.c2 {w : World} {B p : Nat} {am : Option Addr} {m cm size sure : Nat} {bs : List UInt8} (h : MD w B p am m cm size sure bs) : w.cell? ⟨p, 2, none⟩ = some (.int .i64 sure) := by rw [cell_of_row w p 2 _ _ _ h.hp]; rfl
theorem MD.fr {w : World} {B p : Nat} {am : Option Addr} {m cm size sure : Nat} {bs : List UInt8} (h : MD w B p am m cm size sure bs) (j : Nat) : w.frozen? ⟨p, j, none⟩ = false := frozen_of_row w p j _ _ h.hp
theorem MD.lt {w : World} {B p : Nat} {am : Option Addr} {m cm size sure : Nat} {bs : List UInt8} (h : MD w B p am m cm size sure bs) : p < w.heap.size := (Array.getElem?_eq_some_iff.1 h.hp).1
theorem MD.apart {w : World} {B p : Nat} {am : Option Addr} {m cm size sure : Nat} {bs : List UInt8} (h : MD w B p am m cm size sure bs) : ∀ k, some k = blk am → k ≠ p := fun k hk e => own_row h.own h.hp (by decide) k hk e
theorem MD.chg {S : Nat → Prop} {w w' : World} {B p : Nat} {am : Option Addr} {m cm size sure : Nat} {bs : List UInt8} (h : MD w B p am m cm size sure bs) (hc : Chg S w w') (h1 : ¬ S p) (h2 : ∀ k, some k = blk am → ¬ S k) : MD w' B p am m cm size sure bs :=
  ⟨h.len, by rw [hc.block p h.lt h1]; exact h.hp, h.own.chg hc h2, h.sure_le, h.le, h.max, h.base⟩
theorem MD.drewN {w : World} {B p : Nat} {am : Option Addr} {m cm size sure : Nat} {bs : List UInt8} (h : MD w B p am m cm size sure bs) (q : Nat) : MD (w.drewN q) B p am m cm size sure bs := ⟨h.len, h.hp, h.own, h.sure_le, h.le, h.max, h.base⟩
theorem mNew_yes {w : World} {size : Nat} (hs : size ≤ 16777216) :
    Calls Tryz.prog 22 #[.int .i64 size] w fun e w' => e = .returned (.tuple #[.pointer (some ⟨w.heap.size, 0, none⟩), .int .i64 0]) ∧ MD w' w.heap.size w.heap.size none 0 0 size 0 [] ∧ Chg Non w w' := by
  have h1 : decide ((size : Int) < 0) = false := by simp
  have h2 : decide ((size : Int) > 16777216) = false := by simp; omega
  go_enter Tryz.func22, Tryz.ntmps22
  go_wp2
  go_ret2
  exact ⟨rfl, ⟨rfl, heap_alloc_new w _, Own.nil _ _ _ _, Nat.le_refl _, Nat.zero_le _, hs, Nat.le_refl _⟩, (Chg.refl _ _).alloc _⟩
theorem mNew_no {w : World} {size : Int} (hs : size < 0 ∨ 16777216 < size) :
    Calls Tryz.prog 22 #[.int .i64 size] w fun e w' => e = .returned (.tuple #[.pointer none, .int .i64 1]) ∧ w = w' := by
  by_cases h1 : size < 0
  · go_enter Tryz.func22, Tryz.ntmps22
    go_wp2
    go_ret2
    exact ⟨rfl, rfl⟩
  · have h2 : 16777216 < size := by omega
    go_enter Tryz.func22, Tryz.ntmps22
    go_wp2
    go_ret2
    exact ⟨rfl, rfl⟩
theorem mSure {w : World} {B p : Nat} {am : Option Addr} {m cm size sure : Nat} {bs : List UInt8} (h : MD w B p am m cm size sure bs) :
    Calls Tryz.prog 31 #[.pointer (some ⟨p, 0, none⟩)] w fun e w' => e = .returned (.int .i64 sure) ∧ w = w' := by
  have c2 := h.c2
  have H := Lib.hid h; clear h
  go_enter Tryz.func31, Tryz.ntmps31
  go_wp2
  go_ret
  exact ⟨rfl, rfl⟩
theorem mSync {w : World} {B p : Nat} {am : Option Addr} {m cm size sure : Nat} {bs : List UInt8} (h : MD w B p am m cm size sure bs) :
    Calls Tryz.prog 24 #[.pointer (some ⟨p, 0, none⟩)] w fun e w' => e = .returned (.int .i64 0) ∧ MD w' B p am m cm size m bs ∧ Chg (fun k => k = p) w w' := by
  have c1 := h.c1
  have c2 := h.c2
  have f2 := h.fr 2
  have H := Lib.hid h; clear h
  go_enter Tryz.func24, Tryz.ntmps24
  go_wp2
  go_ret
  have hc : Chg (fun k => k = p) w (w.setCell ⟨p, 2, none⟩ (.int .i64 m)) := (Chg.refl (fun k => k = p) w).setCell (p := ⟨p, 2, none⟩) (.inr rfl) _
  refine ⟨rfl, ⟨H.out.len, ?_, H.out.own.chg hc H.out.apart, Nat.le_refl _, H.out.le, H.out.max, H.out.base⟩, hc⟩
  rw [heap_setCell_same w p 2 _ _ _ H.out.hp]; rfl
theorem mCut_no {w : World} {B p : Nat} {am : Option Addr} {m cm size sure : Nat} {bs : List UInt8} (h : MD w B p am m cm size sure bs) {s : Int} (hs : s < 0 ∨ m < s) :
    Calls Tryz.prog 26 #[.pointer (some ⟨p, 0, none⟩), .int .i64 s] w fun e w' => e = .returned (.int .i64 1) ∧ w = w' := by
  have c1 := h.c1
  have H := Lib.hid h; clear h
  by_cases h1 : s < 0
  · go_enter Tryz.func26, Tryz.ntmps26
    go_wp2
    go_ret
    exact ⟨rfl, rfl⟩
  · have h2 : (m : Int) < s := by omega
    go_enter Tryz.func26, Tryz.ntmps26
    go_wp2
    go_ret
    exact ⟨rfl, rfl⟩
theorem mFail_no {w : World} {p : Nat} {m : Int} (hm : m < 0) :
    Calls Tryz.prog 28 #[.pointer (some ⟨p, 0, none⟩), .int .i64 m] w fun e w' => e = .returned (.tuple #[.pointer none, .int .i64 1]) ∧ w = w' := by
  go_enter Tryz.func28, Tryz.ntmps28
  go_wp2
  go_ret2
  exact ⟨rfl, rfl⟩
theorem mAppend_no {w : World} {B p : Nat} {am : Option Addr} {m cm size sure : Nat} {bs : List UInt8} (h : MD w B p am m cm size sure bs) {a2 : Option Addr} {n c2 : Nat} (hn : size < m + n) (hm : n ≤ maxLen) :
    Calls Tryz.prog 29 #[.pointer (some ⟨p, 0, none⟩), .slice a2 n c2] w fun e w' => e = .returned (.int .i64 7) ∧ ∃ q, w' = w.drewN q := by
  have k1 := h.c0
  have k2 := h.c1
  have k3 := h.le
  have k4 := h.max
  unfold maxLen at hm
  have g : decide ((n : Int) > (size : Int) - (m : Int)) = true := by simp; omega
  have H := Lib.hid h; clear h
  go_enter Tryz.func29, Tryz.ntmps29
  go_wp2_with fail
  go_quiet (fail)
  go_wp2_with fail
  go_ret
  exact ⟨rfl, _, rfl⟩
/-- Bytes that a slice reads, laid in new memory behind nothing. -/
theorem mBytes {w : World} {B p : Nat} {am : Option Addr} {m cm size sure : Nat} {bs : List UInt8} (h : MD w B p am m cm size sure bs) :
    Calls Tryz.prog 30 #[.pointer (some ⟨p, 0, none⟩)] w fun e w' => ∃ a1 c1, e = .returned (.slice a1 m c1) ∧ Own w' w.heap.size 5 1 a1 m c1 (bs.map bv) ∧ Chg Non w w' := by
  obtain ⟨i0, hi, hz0, hz1, hz2⟩ := info_parts Tryz.info_u8
  have Hi := Lib.hid hi; have Hz0 := Lib.hid hz0; have Hz1 := Lib.hid hz1; have Hz2 := Lib.hid hz2
  clear hi hz0 hz1 hz2
  have k1 := h.c1
  have k3 := h.le
  have k4 := h.max
  obtain ⟨b0, _, hr⟩ := Rd.of_Own h.own
  have HR := Lib.hid hr
  clear hr
  have H := Lib.hid h; clear h
  go_enter Tryz.func30, Tryz.ntmps30
  go_wp2_with (at_builtin; refine wpList_append_Own rfl _ _ 22 22 rfl w.heap.size 5 1 1 i0 (.int .u8 0) Tryz.underlying22 Hi.out Hz0.out Hz1.out rfl Hz2.out none 0 0 [] rfl (Own.nil _ _ _ _) _ m (bs.map bv) rfl (HR.out.src Tryz.underlying22) (by unfold maxLen; omega) (by omega) (by simp) ?_; intro a1 c1 w5 hown hchg hb _; rw [Nat.zero_add, List.nil_append] at hown; rw [Nat.zero_add]; have O5 := Lib.hid hown; have C5 : Hid (Chg Non w w5) := Lib.hid ((Chg.refl Non w).next hchg (fun i hi e => by have := e.1; simp [blk] at this)); clear hown hchg hb)
  go_ret
  exact ⟨a1, c1, rfl, O5.out, C5.out⟩
/-- What a store of new bytes into the disk leaves. -/
theorem MD.put {w w5 : World} {B p : Nat} {am : Option Addr} {m cm size sure : Nat} {bs : List UInt8} (h : MD w B p am m cm size sure bs) (hc : Chg Non w w5) {a1 : Option Addr} {n1 c1 : Nat} {cs : List UInt8} (ho : Own w5 w.heap.size 5 1 a1 n1 c1 (cs.map bv)) (hl : cs.length = n1) (hle : n1 ≤ size) {sure' : Nat} (hs : sure' ≤ n1) :
    ∀ w7, w7 = (w5.setCell ⟨p, 1, none⟩ (.slice a1 n1 c1)).setCell ⟨p, 2, none⟩ (.int .i64 sure') → MD w7 B p a1 n1 c1 size sure' cs ∧ Chg (fun k => k = p) w w7 := by
  intro w7 hw7
  have hc5 : Chg (fun k => k = p) w w7 := by rw [hw7]; exact ((hc.mono (T := fun k => k = p) (fun _ _ h => h.elim)).setCell (p := ⟨p, 1, none⟩) (.inr rfl) _).setCell (p := ⟨p, 2, none⟩) (.inr rfl) _
  have hp5 := (hc.block p h.lt (fun h => h)).trans h.hp
  have hc7 : Chg (fun k => k = p) w5 w7 := by rw [hw7]; exact ((Chg.refl (fun k => k = p) w5).setCell (p := ⟨p, 1, none⟩) (.inr rfl) _).setCell (p := ⟨p, 2, none⟩) (.inr rfl) _
  refine ⟨⟨hl, ?_, ?_, hs, hle, h.max, h.base⟩, hc5⟩
  · rw [hw7, heap_setCell_same _ p 2 _ _ _ (heap_setCell_same w5 p 1 _ _ _ hp5)]; rfl
  · have h1 := h.lt; have h2 := h.base
    exact (ho.chg hc7 (fun k hk e => by have := (ho.lt k hk).1; omega)).mono (by omega)
theorem MD.put1 {w w5 : World} {B p : Nat} {am : Option Addr} {m cm size sure : Nat} {bs : List UInt8} (h : MD w B p am m cm size sure bs) (hc : Chg Non w w5) {a1 : Option Addr} {n1 c1 : Nat} {cs : List UInt8} (ho : Own w5 w.heap.size 5 1 a1 n1 c1 (cs.map bv)) (hl : cs.length = n1) (hle : n1 ≤ size) (hs : sure ≤ n1) :
    ∀ w7, w7 = w5.setCell ⟨p, 1, none⟩ (.slice a1 n1 c1) → MD w7 B p a1 n1 c1 size sure cs ∧ Chg (fun k => k = p) w w7 := by
  intro w7 hw7
  have hc5 : Chg (fun k => k = p) w w7 := by rw [hw7]; exact (hc.mono (T := fun k => k = p) (fun _ _ h => h.elim)).setCell (p := ⟨p, 1, none⟩) (.inr rfl) _
  have hp5 := (hc.block p h.lt (fun h => h)).trans h.hp
  have hc7 : Chg (fun k => k = p) w5 w7 := by rw [hw7]; exact (Chg.refl (fun k => k = p) w5).setCell (p := ⟨p, 1, none⟩) (.inr rfl) _
  refine ⟨⟨hl, ?_, ?_, hs, hle, h.max, h.base⟩, hc5⟩
  · rw [hw7, heap_setCell_same w5 p 1 _ _ _ hp5]; rfl
  · have h1 := h.lt; have h2 := h.base
    exact (ho.chg hc7 (fun k hk e => by have := (ho.lt k hk).1; omega)).mono (by omega)
set_option maxRecDepth 40000 in
theorem mCut_yes {w : World} {B p : Nat} {am : Option Addr} {m cm size sure : Nat} {bs : List UInt8} (h : MD w B p am m cm size sure bs) {s : Nat} (hs : s ≤ m) :
    Calls Tryz.prog 26 #[.pointer (some ⟨p, 0, none⟩), .int .i64 s] w fun e w' => e = .returned (.int .i64 0) ∧ ∃ a1 c1, MD w' B p a1 s c1 size s (bs.take s) ∧ Chg (fun k => k = p) w w' ∧ (∀ k, some k = blk a1 → w.heap.size ≤ k) := by
  obtain ⟨i0, hi, hz0, hz1, hz2⟩ := info_parts Tryz.info_u8
  have Hi := Lib.hid hi; have Hz0 := Lib.hid hz0; have Hz1 := Lib.hid hz1; have Hz2 := Lib.hid hz2
  clear hi hz0 hz1 hz2
  have k1 := h.c1
  have k3 := h.le
  have k4 := h.max
  have hcm := h.own.le
  unfold maxLen at hcm
  obtain ⟨b0, _, hr⟩ := Rd.of_Own h.own
  have HR := Lib.hid (hr.take hs)
  clear hr
  have hpl := Lib.hid h.lt
  have hl : (bs.take s).length = s := by rw [List.length_take, h.len]; omega
  have HL := Lib.hid hl
  clear hl
  have H := Lib.hid h; clear h
  have b1 : (0 : Int) ≤ (s : Int) := by omega
  have b2 : (s : Int) ≤ (cm : Int) := by omega
  have h1 : decide ((s : Int) < 0) = false := by simp
  have h2 : decide ((s : Int) > (m : Int)) = false := by simp; omega
  go_enter Tryz.func26, Tryz.ntmps26
  go_wp2_with (at_builtin; refine wpList_append_Own rfl _ _ 22 22 rfl w.heap.size 5 1 1 i0 (.int .u8 0) Tryz.underlying22 Hi.out Hz0.out Hz1.out rfl Hz2.out none 0 0 [] rfl (Own.nil _ _ _ _) _ s ((bs.take s).map bv) rfl (HR.out.src Tryz.underlying22) (by unfold maxLen; omega) (by omega) (by simp) ?_; intro a1 c1 w5 hown hchg hb _; rw [Nat.zero_add, List.nil_append] at hown; rw [Nat.zero_add]; have O5 := Lib.hid hown; have C5 : Hid (Chg Non w w5) := Lib.hid ((Chg.refl Non w).next hchg (fun i hi e => by have := e.1; simp [blk] at this)); have B5 := Lib.hid hown.lt; obtain ⟨u1, hu1⟩ : ∃ u, w5.cell? ⟨p, 1, none⟩ = some u := ⟨_, (C5.out.cell (p := ⟨p, 1, none⟩) hpl.out (fun h => h)).trans k1⟩; obtain ⟨u2, hu2⟩ : ∃ u, w5.cell? ⟨p, 2, none⟩ = some u := ⟨_, (C5.out.cell (p := ⟨p, 2, none⟩) hpl.out (fun h => h)).trans H.out.c2⟩; have f1 : ∀ j, w5.frozen? ⟨p, j, none⟩ = false := fun j => frozen_of_row w5 p j _ _ ((C5.out.block p hpl.out (fun h => h)).trans H.out.hp); clear hown hchg hb)
  go_ret
  have hfin := H.out.put C5.out O5.out HL.out (by omega) (Nat.le_refl _) _ rfl
  exact ⟨rfl, a1, c1, hfin.1, hfin.2, fun k hk => (B5.out k hk).1⟩
set_option maxRecDepth 40000 in
theorem mAppend_yes {w : World} {B p : Nat} {am : Option Addr} {m cm size sure : Nat} {bs : List UInt8} (h : MD w B p am m cm size sure bs) {b2 : Nat} {a2 : Option Addr} {n c2 : Nat} {cs : List UInt8} (hr : Rd w b2 a2 n c2 cs) (hn : m + n ≤ size) :
    Calls Tryz.prog 29 #[.pointer (some ⟨p, 0, none⟩), .slice a2 n c2] w fun e w' => e = .returned (.int .i64 0) ∧ ∃ a1 c1, MD w' B p a1 (m + n) c1 size sure (bs ++ cs) ∧ Chg (fun k => k = p) w w' ∧ (∀ k, some k = blk a1 → w.heap.size ≤ k) := by
  obtain ⟨i0, hi, hz0, hz1, hz2⟩ := info_parts Tryz.info_u8
  have Hi := Lib.hid hi; have Hz0 := Lib.hid hz0; have Hz1 := Lib.hid hz1; have Hz2 := Lib.hid hz2
  clear hi hz0 hz1 hz2
  have k0 := h.c0
  have k1 := h.c1
  have k3 := h.le
  have k4 := h.max
  obtain ⟨b0, _, hr0⟩ := Rd.of_Own h.own
  have HR := Lib.hid hr0
  clear hr0
  have hle := hr.2.2.1
  have hle2 := hr.2.1
  unfold maxLen at hle
  have HC := Lib.hid hr
  clear hr
  have hpl := Lib.hid h.lt
  have HL : Hid ((bs ++ cs).length = m + n) := Lib.hid (by rw [List.length_append, h.len, HC.out.1])
  have SU := Lib.hid h.sure_le
  have H := Lib.hid h; clear h
  have g : decide ((n : Int) > (size : Int) - (m : Int)) = false := by simp; omega
  go_enter Tryz.func29, Tryz.ntmps29
  go_wp2_with fail
  go_quiet (fail)
  obtain ⟨wd, hwd⟩ : ∃ wd, wd = w.drewN nq := ⟨_, rfl⟩
  rw [← hwd]
  have CD : Hid (Chg Non w wd) := Lib.hid (by rw [hwd]; exact (Chg.refl _ _).drewN nq)
  have HE : Hid (w.heap.size = wd.heap.size) := Lib.hid (by rw [hwd]; rfl)
  have d1 : wd.cell? ⟨p, 1, none⟩ = some (.slice am m cm) := by rw [hwd]; exact k1
  have HRd := Lib.hid (HR.out.chg CD.out (fun h => h)); have HCd := Lib.hid (HC.out.chg CD.out (fun h => h))
  clear hwd k0 k1 g
  go_wp2_with (first
    | (at_builtin; refine wpList_append_Own rfl _ _ 22 22 rfl w.heap.size 5 1 1 i0 (.int .u8 0) Tryz.underlying22 Hi.out Hz0.out Hz1.out rfl Hz2.out none 0 0 [] rfl (Own.nil _ _ _ _) _ m (bs.map bv) rfl (HRd.out.src Tryz.underlying22) (by unfold maxLen; omega) (by omega) (by have := HE.out; omega) ?_; intro a4 c4 w4 hown hchg hb _; rw [Nat.zero_add, List.nil_append] at hown; rw [Nat.zero_add]; have O4 := Lib.hid hown; have C4 : Hid (Chg Non w w4) := Lib.hid (CD.out.next hchg (fun i hi e => by have := e.1; simp [blk] at this)); clear hown hchg hb)
    | (at_builtin; refine wpList_append_Own rfl _ _ 22 22 rfl w.heap.size 5 1 1 i0 (.int .u8 0) Tryz.underlying22 Hi.out Hz0.out Hz1.out rfl Hz2.out a4 m c4 (bs.map bv) rfl O4.out _ n (cs.map bv) rfl ((HC.out.chg C4.out (fun h => h)).src Tryz.underlying22) (by unfold maxLen; omega) (by omega) C4.out.size ?_; intro a1 c1 w5 hown hchg hb _; rw [← List.map_append] at hown; have O5 := Lib.hid hown; have C5 : Hid (Chg Non w w5) := Lib.hid (C4.out.next hchg (fun i hi e => by have := (O4.out.lt i e.1).1; omega)); have B5 := Lib.hid hown.lt; obtain ⟨u1, hu1⟩ : ∃ u, w5.cell? ⟨p, 1, none⟩ = some u := ⟨_, (C5.out.cell (p := ⟨p, 1, none⟩) hpl.out (fun h => h)).trans H.out.c1⟩; have f1 : ∀ j, w5.frozen? ⟨p, j, none⟩ = false := fun j => frozen_of_row w5 p j _ _ ((C5.out.block p hpl.out (fun h => h)).trans H.out.hp); clear hown hchg hb))
  go_ret
  have hfin := H.out.put1 C5.out O5.out HL.out (by omega) (by have := SU.out; omega) _ rfl
  exact ⟨rfl, a1, c1, hfin.1, hfin.2, fun k hk => (B5.out k hk).1⟩
set_option maxRecDepth 40000 in
set_option maxHeartbeats 1000000 in
theorem mFail_yes {w : World} {B p : Nat} {am : Option Addr} {m cm size sure : Nat} {bs : List UInt8} (h : MD w B p am m cm size sure bs) {x : Nat} (hx : x ≤ maxLen) {K : Nat} (hK : K = min x (m - sure)) :
    Calls Tryz.prog 28 #[.pointer (some ⟨p, 0, none⟩), .int .i64 x] w fun e w' => ∃ p' a1 c1, e = .returned (.tuple #[.pointer (some ⟨p', 0, none⟩), .int .i64 0]) ∧
      MD w' w.heap.size p' a1 (sure + K) c1 size (sure + K) (bs.take (sure + K)) ∧ Chg Non w w' := by
  obtain ⟨i0, hi, hz0, hz1, hz2⟩ := info_parts Tryz.info_u8
  have Hi := Lib.hid hi; have Hz0 := Lib.hid hz0; have Hz1 := Lib.hid hz1; have Hz2 := Lib.hid hz2
  clear hi hz0 hz1 hz2
  have k0 := h.c0
  have k1 := h.c1
  have k2 := h.c2
  have k3 := h.le
  have k4 := h.max
  have k6 := h.sure_le
  have hcm := h.own.le
  unfold maxLen at hx hcm
  have hK1 : sure + K ≤ m := by omega
  obtain ⟨b0, _, hr⟩ := Rd.of_Own h.own
  have HR := Lib.hid (hr.take hK1)
  clear hr
  have HL : Hid ((bs.take (sure + K)).length = sure + K) := Lib.hid (by rw [List.length_take, h.len]; omega)
  have H := Lib.hid h; clear h
  have hcase : (x : Int) ≤ (m : Int) - (sure : Int) ∨ (m : Int) - (sure : Int) < (x : Int) := by omega
  have b1 : (0 : Int) ≤ (sure : Int) + (x : Int) := by omega
  have b3 : (0 : Int) ≤ (sure : Int) + ((m : Int) - (sure : Int)) := by omega
  have b4 : (sure : Int) + ((m : Int) - (sure : Int)) ≤ (cm : Int) := by omega
  have t1 : x ≤ m - sure → ((sure : Int) + (x : Int)).toNat = sure + K := fun _ => by omega
  have t2 : m - sure < x → ((sure : Int) + ((m : Int) - (sure : Int))).toNat = sure + K := fun _ => by omega
  rcases hcase with hc | hc
  · have b2 : (sure : Int) + (x : Int) ≤ (cm : Int) := by omega
    have t3 := t1 (by omega)
    have HK := Lib.hid hK
    clear t1 t2 hK
    go_enter Tryz.func28, Tryz.ntmps28
    go_wp2_with fail
    go_quiet (fail)
    go_wp2_with fail
    obtain ⟨wd, hwd⟩ : ∃ wd, wd = w.drewN nq := ⟨_, rfl⟩
    rw [← hwd]
    have CD : Hid (Chg Non w wd) := Lib.hid (by rw [hwd]; exact (Chg.refl _ _).drewN nq)
    have HE : Hid (w.heap.size = wd.heap.size) := Lib.hid (by rw [hwd]; rfl)
    have hd0 : wd.cell? ⟨p, 0, none⟩ = some (.int .i64 size) := by rw [hwd]; exact k0
    have hd1 : wd.cell? ⟨p, 1, none⟩ = some (.slice am m cm) := by rw [hwd]; exact k1
    have HRd := Lib.hid (HR.out.chg CD.out.drew (fun h => h))
    clear hwd k0 k1 k2
    go_region_law ((refine step_append_Own (by rfl) _ _ 22 22 (by rfl) w.heap.size 5 1 1 i0 (.int .u8 0) Tryz.underlying22 Hi.out Hz0.out Hz1.out rfl Hz2.out none 0 0 [] (by rfl) (Own.nil _ _ _ _) (.slice am (sure + K) cm) (sure + K) ((bs.take (sure + K)).map bv) (by rfl) (HRd.out.src Tryz.underlying22) (by unfold maxLen; omega) (by omega) (by have := HE.out; simp <;> omega) ?_; intro a1 c1 w5 hown hchg hb _; rw [Nat.zero_add, List.nil_append] at hown; rw [Nat.zero_add]; have O5 := Lib.hid hown; have C5 : Hid (Chg Non w w5) := Lib.hid (CD.out.drew.next hchg (fun i hi e => by have := e.1; simp [blk] at this)); have e0 : w5.cell? ⟨p, 0, none⟩ = some (.int .i64 size) := ((C5.out.cell (p := ⟨p, 0, none⟩) H.out.lt (fun h => h)).trans H.out.c0); have e1 : w5.cell? ⟨p, 1, none⟩ = some (.slice am m cm) := ((C5.out.cell (p := ⟨p, 1, none⟩) H.out.lt (fun h => h)).trans H.out.c1); clear hown hchg hb))
    all_goals
      go_wp2_with fail
      go_ret2
      refine ⟨_, a1, c1, rfl, ⟨HL.out, (by refine (heap_alloc_new _ _).trans ?_; first | rfl | rw [show (sure : Int) + ((m : Int) - (sure : Int)) = ((sure + K : Nat) : Int) by have := HK.out; omega] | rw [show (sure : Int) + (x : Int) = ((sure + K : Nat) : Int) by have := HK.out; omega]), O5.out.alloc _, Nat.le_refl _, by have := HK.out; omega, k4, C5.out.size⟩, C5.out.alloc _⟩
  · have t3 := t2 (by omega)
    have HK := Lib.hid hK
    clear t1 t2 hK
    go_enter Tryz.func28, Tryz.ntmps28
    go_wp2_with fail
    go_quiet (fail)
    go_wp2_with fail
    obtain ⟨wd, hwd⟩ : ∃ wd, wd = w.drewN nq := ⟨_, rfl⟩
    rw [← hwd]
    have CD : Hid (Chg Non w wd) := Lib.hid (by rw [hwd]; exact (Chg.refl _ _).drewN nq)
    have HE : Hid (w.heap.size = wd.heap.size) := Lib.hid (by rw [hwd]; rfl)
    have hd0 : wd.cell? ⟨p, 0, none⟩ = some (.int .i64 size) := by rw [hwd]; exact k0
    have hd1 : wd.cell? ⟨p, 1, none⟩ = some (.slice am m cm) := by rw [hwd]; exact k1
    have HRd := Lib.hid (HR.out.chg CD.out.drew (fun h => h))
    clear hwd k0 k1 k2
    go_region_law ((refine step_append_Own (by rfl) _ _ 22 22 (by rfl) w.heap.size 5 1 1 i0 (.int .u8 0) Tryz.underlying22 Hi.out Hz0.out Hz1.out rfl Hz2.out none 0 0 [] (by rfl) (Own.nil _ _ _ _) (.slice am (sure + K) cm) (sure + K) ((bs.take (sure + K)).map bv) (by rfl) (HRd.out.src Tryz.underlying22) (by unfold maxLen; omega) (by omega) (by have := HE.out; simp <;> omega) ?_; intro a1 c1 w5 hown hchg hb _; rw [Nat.zero_add, List.nil_append] at hown; rw [Nat.zero_add]; have O5 := Lib.hid hown; have C5 : Hid (Chg Non w w5) := Lib.hid (CD.out.drew.next hchg (fun i hi e => by have := e.1; simp [blk] at this)); have e0 : w5.cell? ⟨p, 0, none⟩ = some (.int .i64 size) := ((C5.out.cell (p := ⟨p, 0, none⟩) H.out.lt (fun h => h)).trans H.out.c0); have e1 : w5.cell? ⟨p, 1, none⟩ = some (.slice am m cm) := ((C5.out.cell (p := ⟨p, 1, none⟩) H.out.lt (fun h => h)).trans H.out.c1); clear hown hchg hb))
    all_goals
      go_wp2_with fail
      go_ret2
      refine ⟨_, a1, c1, rfl, ⟨HL.out, (by refine (heap_alloc_new _ _).trans ?_; first | rfl | rw [show (sure : Int) + ((m : Int) - (sure : Int)) = ((sure + K : Nat) : Int) by have := HK.out; omega] | rw [show (sure : Int) + (x : Int) = ((sure + K : Nat) : Int) by have := HK.out; omega]), O5.out.alloc _, Nat.le_refl _, by have := HK.out; omega, k4, C5.out.size⟩, C5.out.alloc _⟩
end Go.Proofs.YtbmopcmhokpchaaGreatDoor
