/- Contracts of the package disk. -/
import Derived.Test.YtbmopcmhokpchaaGreatDoorTwin
namespace Go.Proofs.YtbmopcmhokpchaaGreatDoor
open Go.RowKit
set_option linter.unusedVariables false
attribute [local go_sem ↓] Go.wp_at_zero Go.wp_at_succ

/-- A disk that a call made: its block p, its bytes bs at ao, how many are sure. -/
structure DiskAt (w : World) (B p : Nat) (ao : Option Addr) (cap size sure : Nat) (bs : List UInt8) : Prop where
  hp : w.heap[p]? = some (.cells #[.int .i64 1, .int .i64 size, .slice ao bs.length cap, .int .i64 sure] 72 (0, 0))
  own : Own w B 5 1 ao bs.length cap (bs.map bv)
  sure_le : sure ≤ bs.length
  le : bs.length ≤ size
  max : size ≤ 16777216
  base : B ≤ p
theorem DiskAt.c0 {w : World} {B p : Nat} {ao : Option Addr} {cap size sure : Nat} {bs : List UInt8} (h : DiskAt w B p ao cap size sure bs) : w.cell? ⟨p, 0, none⟩ = some (.int .i64 1) := by rw [cell_of_row w p 0 _ _ _ h.hp]; rfl
theorem DiskAt.c1 {w : World} {B p : Nat} {ao : Option Addr} {cap size sure : Nat} {bs : List UInt8} (h : DiskAt w B p ao cap size sure bs) : w.cell? ⟨p, 1, none⟩ = some (.int .i64 size) := by rw [cell_of_row w p 1 _ _ _ h.hp]; rfl
theorem DiskAt.c2 {w : World} {B p : Nat} {ao : Option Addr} {cap size sure : Nat} {bs : List UInt8} (h : DiskAt w B p ao cap size sure bs) : w.cell? ⟨p, 2, none⟩ = some (.slice ao bs.length cap) := by rw [cell_of_row w p 2 _ _ _ h.hp]; rfl
theorem DiskAt.c3 {w : World} {B p : Nat} {ao : Option Addr} {cap size sure : Nat} {bs : List UInt8} (h : DiskAt w B p ao cap size sure bs) : w.cell? ⟨p, 3, none⟩ = some (.int .i64 sure) := by rw [cell_of_row w p 3 _ _ _ h.hp]; rfl
theorem DiskAt.fr {w : World} {B p : Nat} {ao : Option Addr} {cap size sure : Nat} {bs : List UInt8} (h : DiskAt w B p ao cap size sure bs) (j : Nat) : w.frozen? ⟨p, j, none⟩ = false := frozen_of_row w p j _ _ h.hp
theorem DiskAt.lt {w : World} {B p : Nat} {ao : Option Addr} {cap size sure : Nat} {bs : List UInt8} (h : DiskAt w B p ao cap size sure bs) : p < w.heap.size := (Array.getElem?_eq_some_iff.1 h.hp).1
theorem DiskAt.apart {w : World} {B p : Nat} {ao : Option Addr} {cap size sure : Nat} {bs : List UInt8} (h : DiskAt w B p ao cap size sure bs) : ∀ k, some k = blk ao → k ≠ p := by
  intro k hk e
  subst e
  obtain ⟨_, _, _, _, h5⟩ := h.own
  cases ao with
  | none => simp [blk] at hk
  | some a =>
    obtain ⟨g, cur, rfl, _, hg, _⟩ := h5 a rfl
    simp [blk] at hk
    subst hk
    rw [h.hp] at hg
    simp at hg
/-- It stays so where neither of its blocks is turned. -/
theorem DiskAt.chg {S : Nat → Prop} {w w' : World} {B p : Nat} {ao : Option Addr} {cap size sure : Nat} {bs : List UInt8} (h : DiskAt w B p ao cap size sure bs) (hc : Chg S w w') (h1 : ¬ S p) (h2 : ∀ k, some k = blk ao → ¬ S k) : DiskAt w' B p ao cap size sure bs :=
  ⟨by rw [hc.block p h.lt h1]; exact h.hp, h.own.chg hc h2, h.sure_le, h.le, h.max, h.base⟩
theorem DiskAt.drewN {w : World} {B p : Nat} {ao : Option Addr} {cap size sure : Nat} {bs : List UInt8} (h : DiskAt w B p ao cap size sure bs) (q : Nat) : DiskAt (w.drewN q) B p ao cap size sure bs := ⟨h.hp, h.own, h.sure_le, h.le, h.max, h.base⟩

theorem there_any {w : World} {B p : Nat} {ao : Option Addr} {cap size sure : Nat} {bs : List UInt8} (h : DiskAt w B p ao cap size sure bs) :
    Calls Tryz.prog 73 #[.pointer (some ⟨p, 0, none⟩)] w fun e w' => e = .returned (.bool true) ∧ w = w' := by
  have c0 := h.c0
  clear h
  go_enter Tryz.func73, Tryz.ntmps73
  go_wp2
  go_ret
  exact ⟨rfl, rfl⟩
theorem there_nil {w : World} :
    Calls Tryz.prog 73 #[.pointer none] w fun e w' => e = .returned (.bool false) ∧ w = w' := by
  go_enter Tryz.func73, Tryz.ntmps73
  go_wp2
  go_ret
  exact ⟨rfl, rfl⟩
theorem New_yes {w : World} {size : Nat} (hs : size ≤ 16777216) :
    Calls Tryz.prog 14 #[.int .i64 size] w fun e w' => e = .returned (.tuple #[.pointer (some ⟨w.heap.size, 0, none⟩), .int .i64 0]) ∧ DiskAt w' w.heap.size w.heap.size none 0 size 0 [] ∧ Chg Non w w' := by
  have h1 : decide ((size : Int) < 0) = false := by simp
  have h2 : decide ((size : Int) > 16777216) = false := by simp; omega
  go_enter Tryz.func14, Tryz.ntmps14
  go_wp2
  go_ret2
  exact ⟨rfl, ⟨heap_alloc_new w _, Own.nil _ _ _ _, Nat.le_refl _, Nat.zero_le _, hs, Nat.le_refl _⟩, (Chg.refl _ _).alloc _⟩
theorem New_no {w : World} {size : Int} (hs : size < 0 ∨ 16777216 < size) :
    Calls Tryz.prog 14 #[.int .i64 size] w fun e w' => e = .returned (.tuple #[.pointer none, .int .i64 1]) ∧ w = w' := by
  by_cases h1 : size < 0
  · go_enter Tryz.func14, Tryz.ntmps14
    go_wp2
    go_ret2
    exact ⟨rfl, rfl⟩
  · have h2 : 16777216 < size := by omega
    go_enter Tryz.func14, Tryz.ntmps14
    go_wp2
    go_ret2
    exact ⟨rfl, rfl⟩
theorem Sure_any {w : World} {B p : Nat} {ao : Option Addr} {cap size sure : Nat} {bs : List UInt8} (h : DiskAt w B p ao cap size sure bs) :
    Calls Tryz.prog 19 #[.pointer (some ⟨p, 0, none⟩)] w fun e w' => e = .returned (.int .i64 sure) ∧ w = w' := by
  have c3 := h.c3
  have H := Lib.hid h; clear h
  go_enter Tryz.func19, Tryz.ntmps19
  go_wp2_with (go_at_call 73; refine (there_any H.out).mono ?_; rintro e w' ⟨rfl, rfl⟩)
  go_ret
  exact ⟨rfl, rfl⟩
theorem Sync_any {w : World} {B p : Nat} {ao : Option Addr} {cap size sure : Nat} {bs : List UInt8} (h : DiskAt w B p ao cap size sure bs) :
    Calls Tryz.prog 23 #[.pointer (some ⟨p, 0, none⟩)] w fun e w' => e = .returned (.int .i64 0) ∧ DiskAt w' B p ao cap size bs.length bs ∧ Chg (fun k => k = p) w w' := by
  have c2 := h.c2
  have c3 := h.c3
  have f3 := h.fr 3
  have H := Lib.hid h; clear h
  go_enter Tryz.func23, Tryz.ntmps23
  go_wp2_with (go_at_call 73; refine (there_any H.out).mono ?_; rintro e w' ⟨rfl, rfl⟩)
  go_ret
  have hc : Chg (fun k => k = p) w (w.setCell ⟨p, 3, none⟩ (.int .i64 bs.length)) := (Chg.refl (fun k => k = p) w).setCell (p := ⟨p, 3, none⟩) (.inr rfl) _
  refine ⟨rfl, ⟨?_, H.out.own.chg hc H.out.apart, Nat.le_refl _, H.out.le, H.out.max, H.out.base⟩, hc⟩
  rw [heap_setCell_same w p 3 _ _ _ H.out.hp]; rfl
theorem Sync_nil {w : World} :
    Calls Tryz.prog 23 #[.pointer none] w fun e w' => e = .returned (.int .i64 2) ∧ w = w' := by
  go_enter Tryz.func23, Tryz.ntmps23
  go_wp2_with (go_at_call 73; refine (there_nil).mono ?_; rintro e w' ⟨rfl, rfl⟩)
  go_ret
  exact ⟨rfl, rfl⟩
theorem Cut_yes {w : World} {B p : Nat} {ao : Option Addr} {cap size sure : Nat} {bs : List UInt8} (h : DiskAt w B p ao cap size sure bs) {s : Nat} (hs : s ≤ bs.length) :
    Calls Tryz.prog 25 #[.pointer (some ⟨p, 0, none⟩), .int .i64 s] w fun e w' => e = .returned (.int .i64 0) ∧ DiskAt w' B p ao s size s (bs.take s) ∧ Chg (fun k => k = p) w w' := by
  have c2 := h.c2
  have c3 := h.c3
  have f2 := h.fr 2
  have f3 := h.fr 3
  have hle := h.own.le
  unfold maxLen at hle
  have h1 : decide ((s : Int) < 0) = false := by simp
  have h2 : decide ((s : Int) > (bs.length : Int)) = false := by simp; omega
  have b1 : (0 : Int) ≤ (s : Int) := by omega
  have b2 : (s : Int) ≤ (cap : Int) := by omega
  have H := Lib.hid h; clear h
  go_enter Tryz.func25, Tryz.ntmps25
  go_wp2_with (go_at_call 73; refine (there_any H.out).mono ?_; rintro e w' ⟨rfl, rfl⟩)
  go_ret
  have hc : Chg (fun k => k = p) w ((w.setCell ⟨p, 2, none⟩ (.slice ao s s)).setCell ⟨p, 3, none⟩ (.int .i64 s)) := ((Chg.refl (fun k => k = p) w).setCell (p := ⟨p, 2, none⟩) (.inr rfl) _).setCell (p := ⟨p, 3, none⟩) (.inr rfl) _
  have hl : (bs.take s).length = s := by simp; omega
  refine ⟨rfl, ⟨?_, ?_, by omega, by have := H.out.le; omega, H.out.max, H.out.base⟩, hc⟩
  · rw [heap_setCell_same _ p 3 _ _ _ (heap_setCell_same w p 2 _ _ _ H.out.hp), hl]; rfl
  · have ho := H.out.own.chg hc H.out.apart
    obtain ⟨o1, o2, o3, o4, o5⟩ := ho
    refine ⟨by simp, by omega, by unfold maxLen; omega, fun e => by have := o4 e; omega, fun a ha => ?_⟩
    obtain ⟨g, cur, e1, e2, e3, e4, e5⟩ := o5 a ha
    refine ⟨g, cur, e1, e2, e3, by omega, ?_⟩
    rw [hl, List.map_take, ← e5, List.take_take]
    congr 1
    omega
theorem Cut_no {w : World} {B p : Nat} {ao : Option Addr} {cap size sure : Nat} {bs : List UInt8} (h : DiskAt w B p ao cap size sure bs) {s : Int} (hs : s < 0 ∨ bs.length < s) :
    Calls Tryz.prog 25 #[.pointer (some ⟨p, 0, none⟩), .int .i64 s] w fun e w' => e = .returned (.int .i64 1) ∧ w = w' := by
  have c2 := h.c2
  have H := Lib.hid h; clear h
  by_cases h1 : s < 0
  · go_enter Tryz.func25, Tryz.ntmps25
    go_wp2_with (go_at_call 73; refine (there_any H.out).mono ?_; rintro e w' ⟨rfl, rfl⟩)
    go_ret
    exact ⟨rfl, rfl⟩
  · have h2 : (bs.length : Int) < s := by omega
    go_enter Tryz.func25, Tryz.ntmps25
    go_wp2_with (go_at_call 73; refine (there_any H.out).mono ?_; rintro e w' ⟨rfl, rfl⟩)
    go_ret
    exact ⟨rfl, rfl⟩
theorem Tryz.size_u8 : (Tryz.prog.info? 5).map (·.size) = some 1 := by kernel_rfl
set_option maxRecDepth 20000 in
theorem first_any {w : World} {B p : Nat} {ao : Option Addr} {cap size sure : Nat} {bs : List UInt8} (h : DiskAt w B p ao cap size sure bs) {n : Nat} (hs : n ≤ bs.length) :
    Calls Tryz.prog 77 #[.pointer (some ⟨p, 0, none⟩), .int .i64 n] w fun e w' => e = .returned (.slice (some ⟨w.heap.size, 0, none⟩) n n) ∧ Own w' w.heap.size 5 1 (some ⟨w.heap.size, 0, none⟩) n n ((bs.take n).map bv) ∧ Chg Non w w' := by
  have c2 := h.c2
  have hle := h.own.le
  have hlt := h.lt
  unfold maxLen at hle
  obtain ⟨i0, hi, hz0, hz1, hz2⟩ := info_parts Tryz.info_u8
  have Hi := Lib.hid hi; clear hi
  have Hz0 := Lib.hid hz0; clear hz0
  have Hz1 := Lib.hid hz1; clear hz1
  have Hz2 := Lib.hid hz2; clear hz2
  have hmax := h.max
  have hl := h.le
  have H := Lib.hid h; clear h
  obtain ⟨b, _, hrd⟩ := Rd.of_Own H.out.own
  have Hrd := Lib.hid (hrd.chg (S := Non) ((Chg.refl _ w).alloc (.cells (madeCells #[.int .u8 0] n) 5)) (fun h => h)); clear hrd
  go_enter Tryz.func77, Tryz.ntmps77
  go_wp2_with (first | (at_make; refine wpList_make_any rfl _ _ 22 rfl 5 i0 (.int .u8 0) 1 1 Tryz.underlying22 Hi.out Hz0.out Hz1.out Hz2.out _ _ _ _ n n rfl rfl rfl rfl (by omega) (by omega) (by unfold maxLen; omega) ?_) | (refine wpList_copy_Rd (o := ⟨some 13, _, _, _, _, _⟩) (w := w.alloc (.cells (madeCells #[.int .u8 0] n) 5)) rfl _ _ 22 22 rfl 5 Tryz.underlying22 Tryz.size_u8 _ n n w.heap.size 0 (madeCells #[.int .u8 0] n) 5 rfl (fun _ => rfl) (heap_alloc_new w _) (by simp [size_madeCells]) ao bs.length cap b bs rfl Hrd.out ?_))
  go_ret
  refine ⟨rfl, ?_, ((Chg.refl _ w).alloc _).setRow (.inl (Nat.le_refl _)) _⟩
  have e0 : List.drop n (madeCells #[Value.int .u8 0] n).toList = [] := List.drop_eq_nil_of_le (by simp [size_madeCells])
  rw [e0, List.append_nil]
  have ho := Own.of_block (n := n) (cap := n) (sz := 1) (B := w.heap.size) (setRow_heap (w.alloc (.cells (madeCells #[.int .u8 0] n) 5)) w.heap.size _ (((bs.map bv).take n).toArray) 5 (0, 0) (heap_alloc_new w _)) (Nat.le_refl _) (Nat.le_refl _) (by unfold maxLen; omega) (by simp; omega)
  simpa [List.map_take, List.take_take] using ho
set_option maxRecDepth 20000 in
theorem Bytes_any {w : World} {B p : Nat} {ao : Option Addr} {cap size sure : Nat} {bs : List UInt8} (h : DiskAt w B p ao cap size sure bs) :
    Calls Tryz.prog 18 #[.pointer (some ⟨p, 0, none⟩)] w fun e w' => e = .returned (.slice (some ⟨w.heap.size, 0, none⟩) bs.length bs.length) ∧ Own w' w.heap.size 5 1 (some ⟨w.heap.size, 0, none⟩) bs.length bs.length (bs.map bv) ∧ Chg Non w w' := by
  have c2 := h.c2
  have H := Lib.hid h; clear h
  go_enter Tryz.func18, Tryz.ntmps18
  go_wp2_with (first | (go_at_call 73; refine (there_any H.out).mono ?_; rintro e w' ⟨rfl, rfl⟩) | (go_at_call 77; refine (first_any H.out (Nat.le_refl _)).mono ?_; rintro e w1 ⟨rfl, ho, hc⟩))
  go_ret
  rw [List.take_of_length_le (Nat.le_refl _)] at ho
  exact ⟨rfl, ho, hc⟩
theorem Bytes_nil {w : World} :
    Calls Tryz.prog 18 #[.pointer none] w fun e w' => e = .returned (.slice none 0 0) ∧ w = w' := by
  go_enter Tryz.func18, Tryz.ntmps18
  go_wp2_with (go_at_call 73; refine (there_nil).mono ?_; rintro e w' ⟨rfl, rfl⟩)
  go_ret
  exact ⟨rfl, rfl⟩
theorem Append_nil {w : World} {x : Value} :
    Calls Tryz.prog 15 #[.pointer none, x] w fun e w' => e = .returned (.int .i64 2) ∧ w = w' := by
  go_enter Tryz.func15, Tryz.ntmps15
  go_wp2_with (go_at_call 73; refine (there_nil).mono ?_; rintro e w' ⟨rfl, rfl⟩)
  go_ret
  exact ⟨rfl, rfl⟩
set_option maxRecDepth 20000 in
theorem Append_no {w : World} {B p : Nat} {ao : Option Addr} {cap size sure : Nat} {bs : List UInt8} (h : DiskAt w B p ao cap size sure bs) {a2 : Option Addr} {n c2 : Nat} (hn : size < bs.length + n) (hm : n ≤ maxLen) :
    Calls Tryz.prog 15 #[.pointer (some ⟨p, 0, none⟩), .slice a2 n c2] w fun e w' => e = .returned (.int .i64 7) ∧ ∃ q, w' = w.drewN q := by
  have k1 := h.c1
  have k2 := h.c2
  have k3 := h.le
  have k4 := h.max
  have H := Lib.hid h; clear h
  unfold maxLen at hm
  go_enter Tryz.func15, Tryz.ntmps15
  go_wp2_with (go_at_call 73; refine (there_any H.out).mono ?_; rintro e w' ⟨rfl, rfl⟩)
  go_quiet (fail)
  go_wp2
  go_ret
  exact ⟨rfl, _, rfl⟩
set_option maxRecDepth 20000 in
theorem Append_yes {w : World} {B p : Nat} {ao : Option Addr} {cap size sure : Nat} {bs : List UInt8} (h : DiskAt w B p ao cap size sure bs) {b2 : Nat} {a2 : Option Addr} {n c2 : Nat} {cs : List UInt8} (hr : Rd w b2 a2 n c2 cs) (hn : bs.length + n ≤ size) :
    Calls Tryz.prog 15 #[.pointer (some ⟨p, 0, none⟩), .slice a2 n c2] w fun e w' => e = .returned (.int .i64 0) ∧ ∃ ao' cap', DiskAt w' B p ao' cap' size sure (bs ++ cs) ∧ Chg (fun k => k = p ∨ some k = blk ao) w w' ∧ (blk ao' = blk ao ∨ blk ao' = some w.heap.size) := by
  have k1 := h.c1
  have k2 := h.c2
  have k3 := h.le
  have k4 := h.max
  have k5 := h.fr 2
  have hpl := h.lt
  have hpB := h.base
  have hle := hr.2.2.1
  have hle2 := hr.2.1
  unfold maxLen at hle
  obtain ⟨i0, hi, hz0, hz1, hz2⟩ := info_parts Tryz.info_u8
  have Hi := Lib.hid hi; clear hi
  have Hz0 := Lib.hid hz0; clear hz0
  have Hz1 := Lib.hid hz1; clear hz1
  have Hz2 := Lib.hid hz2; clear hz2
  have H := Lib.hid h; clear h
  have Hr := Lib.hid hr; clear hr
  go_enter Tryz.func15, Tryz.ntmps15
  go_wp2_with (go_at_call 73; refine (there_any H.out).mono ?_; rintro e w' ⟨rfl, rfl⟩)
  go_quiet (fail)
  go_wp2_with (at_builtin; refine wpList_append_Own rfl _ _ 22 22 rfl B 5 1 1 i0 (.int .u8 0) Tryz.underlying22 Hi.out Hz0.out Hz1.out rfl Hz2.out ao bs.length cap _ rfl (H.out.own.drewN nq) _ n _ rfl ((Hr.out.drewN nq).src Tryz.underlying22) (by unfold maxLen; omega) (by omega) (by simp; omega) ?_)
  intro ao' cap' w1 hown1 hchg1 hb1 _
  have hp1 : w1.heap[p]? = w.heap[p]? := hchg1.block p hpl (fun h => H.out.apart p h.1 rfl)
  have k6 : w1.cell? ⟨p, 2, none⟩ = some (.slice ao bs.length cap) := by rw [World.cell?_of_block (w := w) (a := ⟨p, 2, none⟩) hp1]; exact k2
  have k7 : w1.frozen? ⟨p, 2, none⟩ = false := by rw [World.frozen?_of_block (w := w) (a := ⟨p, 2, none⟩) hp1]; exact k5
  have Hp1 := Lib.hid hp1; clear hp1
  go_wp2
  go_ret
  have hl : (bs ++ cs).length = bs.length + n := by rw [List.length_append, Hr.out.1]
  have hc : Chg (fun k => k = p ∨ some k = blk ao) w (w1.setCell ⟨p, 2, none⟩ (.slice ao' (bs.length + n) cap')) :=
    Chg.setCell (a := w) (Chg.next (S := fun k => k = p ∨ some k = blk ao) (a := w) (b := w) (Chg.refl _ _) ⟨hchg1.os, hchg1.tape, hchg1.output, hchg1.size, hchg1.block⟩ (fun i _ h => .inr h.1)) (p := ⟨p, 2, none⟩) (.inr (.inl rfl)) _
  refine ⟨rfl, ao', cap', ⟨?_, ?_, ?_, by omega, H.out.max, H.out.base⟩, hc, by simpa using hb1⟩
  · rw [heap_setCell_same w1 p 2 _ _ _ (Hp1.out.trans H.out.hp), hl]; rfl
  · rw [hl, List.map_append]
    refine Own.same hown1 fun k hk => heap_setCell_other w1 ⟨p, 2, none⟩ k _ ?_
    rcases hb1 with hb1 | hb1
    · exact H.out.apart k (by rw [hk, hb1])
    · rw [hb1] at hk; simp at hk hpl ⊢; omega
  · have := H.out.sure_le; omega
theorem Fail_no {w : World} {B p : Nat} {ao : Option Addr} {cap size sure : Nat} {bs : List UInt8} (h : DiskAt w B p ao cap size sure bs) {m : Int} (hm : m < 0) :
    Calls Tryz.prog 27 #[.pointer (some ⟨p, 0, none⟩), .int .i64 m] w fun e w' => e = .returned (.tuple #[.pointer none, .int .i64 1]) ∧ w = w' := by
  have H := Lib.hid h; clear h
  go_enter Tryz.func27, Tryz.ntmps27
  go_wp2_with (go_at_call 73; refine (there_any H.out).mono ?_; rintro e w' ⟨rfl, rfl⟩)
  go_ret2
  exact ⟨rfl, rfl⟩
theorem first_of {w : World} {B p : Nat} {ao : Option Addr} {cap size sure : Nat} {bs : List UInt8} (h : DiskAt w B p ao cap size sure bs) {N : Int} {n : Nat} (hN : N = (n : Int)) (hs : n ≤ bs.length) :
    Calls Tryz.prog 77 #[.pointer (some ⟨p, 0, none⟩), .int .i64 N] w fun e w' => e = .returned (.slice (some ⟨w.heap.size, 0, none⟩) n n) ∧ Own w' w.heap.size 5 1 (some ⟨w.heap.size, 0, none⟩) n n ((bs.take n).map bv) ∧ Chg Non w w' := by
  subst hN
  exact first_any h hs
set_option maxRecDepth 20000 in
theorem Fail_yes {w : World} {B p : Nat} {ao : Option Addr} {cap size sure : Nat} {bs : List UInt8} (h : DiskAt w B p ao cap size sure bs) {m : Nat} (hm : m ≤ maxLen) :
    Calls Tryz.prog 27 #[.pointer (some ⟨p, 0, none⟩), .int .i64 m] w fun e w' => ∃ p' g, e = .returned (.tuple #[.pointer (some ⟨p', 0, none⟩), .int .i64 0]) ∧
      DiskAt w' w.heap.size p' (some ⟨g, 0, none⟩) (min bs.length (sure + m)) size (min bs.length (sure + m)) (bs.take (sure + m)) ∧ Chg Non w w' := by
  have k1 := h.c1
  have k2 := h.c2
  have k3 := h.c3
  have k4 := h.le
  have k5 := h.max
  have k6 := h.sure_le
  have k7 := h.lt
  unfold maxLen at hm
  have H := Lib.hid h; clear h
  have hcase : (m : Int) ≤ (bs.length : Int) - (sure : Int) ∨ (bs.length : Int) - (sure : Int) < (m : Int) := by omega
  rcases hcase with hc | hc
  all_goals
    go_enter Tryz.func27, Tryz.ntmps27
    go_wp2_with (go_at_call 73; refine (there_any H.out).mono ?_; rintro e w' ⟨rfl, rfl⟩)
    go_quiet (fail)
    go_wp2_with fail
    obtain ⟨wd, hwd⟩ : ∃ wd, wd = w.drewN nq := ⟨_, rfl⟩
    have Hd : Hid (DiskAt wd B p ao cap size sure bs) := by rw [hwd]; exact H.out.drewN nq
    have Hs : Hid (Chg Non w wd) := by rw [hwd]; exact (Chg.refl _ _).drewN nq
    have k8 : ∀ w', Chg Non wd w' → w'.cell? ⟨p, 1, none⟩ = some (.int .i64 size) := fun w' h => by rw [h.cell (p := ⟨p, 1, none⟩) Hd.out.lt (fun h => h)]; exact Hd.out.c1
    rw [← hwd]
    clear hwd k1 k2 k3
    go_region_held3 (fun w' => Chg Non wd w') (first | exact (Chg.refl _ _).drew | exact Chg.trans (Chg.refl _ _).drew hc1 | exact (Chg.trans (Chg.refl _ _).drew hc1).alloc _ | skip) (first | (go_at_call 77; refine Calls.mono (first_of (Hd.out.drewN 1) (n := min bs.length (sure + m)) (by omega) (by omega)) ?_; rintro e w1 ⟨rfl, ho1, hc1⟩))
    go_wp2
    go_ret2
    have hl : (bs.take (sure + m)).length = min bs.length (sure + m) := by rw [List.length_take, Nat.min_comm]
    have ht : bs.take (min bs.length (sure + m)) = bs.take (sure + m) := by rw [Nat.min_comm, ← List.take_take, List.take_length]
    rw [ht] at ho1
    have hge : w.heap.size ≤ wd.heap.size := Hs.out.size
    have hge1 : wd.heap.size ≤ w1.heap.size := hc1.size
    refine ⟨w1.heap.size, wd.heap.size, rfl, ⟨?_, ?_, by omega, by omega, k5, by omega⟩, ((Hs.out.drewN 1).trans hc1).alloc _⟩
    · rw [hl]
      refine (heap_alloc_new w1 _).trans ?_
      have e1 : ∀ z : Int, z = ((min bs.length (sure + m) : Nat) : Int) → Value.int .i64 z = .int .i64 ((min bs.length (sure + m) : Nat) : Int) := fun z h => by rw [h]
      first | rw [e1 (↑sure + ↑m) (by omega)] | rw [e1 (↑sure + (↑bs.length - ↑sure)) (by omega)]
    · rw [hl]
      exact (Own.alloc ho1 _).mono hge
end Go.Proofs.YtbmopcmhokpchaaGreatDoor
