/- Contracts of a line, and of Put, New, Left. -/
import Derived.Test.YtjjppbfknjeddaaLinLine
import Derived.Shelf.Lays
import Derived.Shelf.Bytes.IndexByte
import Derived.Shelf.Bytes.SlIndexAt
namespace Go.Proofs
open Go.Shelf
def Try.lays187_ren : Go.Shelf.Ren := ⟨fun | 187 => 16 | 255 => 21 | n => n, fun | 37 => 22 | 5 => 5 | 3 => 3 | n => n, fun | n => n⟩
theorem Try.lays187 : Go.Proofs.Lays.n187 Try.prog Try.lays187_ren := {
  mixed := by kernel_rfl
  f187 := Try.func16.trans (congrArg some (by kernel_rfl))
  f255 := Try.func21.trans (congrArg some (by kernel_rfl))
  t3 := Try.underlying3
  a3 := Try.isAgg3
  z3 := Try.sizeOf3
  v3 := Try.zeroValue3
  t5 := Try.underlying5
  a5 := Try.isAgg5
  z5 := Try.sizeOf5
  v5 := Try.zeroValue5
  t37 := Try.underlying22
  a37 := Try.isAgg22
  z37 := Try.sizeOf22
  v37 := Try.zeroValue22 }
end Go.Proofs
namespace Go.Proofs.Ytjjppbfknjeddaa
open Go.RowKit Go.Shelf
set_option linter.unusedVariables false
set_option linter.unusedSimpArgs false
attribute [local go_sem ↓] Go.wp_at_zero Go.wp_at_succ
theorem ContainsFunc_odd {w : World} {b1 : Nat} {a1 : Option Addr} {n1 c1 : Nat} {xs : List UInt8} (h1 : Rd w b1 a1 n1 c1 xs) {b : Bool} (hb : xs.any oddB = b) :
    Calls Try.prog 23 #[.slice a1 n1 c1, .func (.func 24) #[] #[]] w fun e w' => e = .returned (.bool b) ∧ w = w' := by
  subst hb
  have H := Lib.hid h1; clear h1
  go_enter Try.func23, Try.ntmps23
  go_wp2_with (go_at_call 26; refine Calls.mono (IndexFunc_odd H.out) ?_; rintro e w' ⟨⟨z, rfl, hz⟩, rfl⟩)
  go_ret
  refine ⟨?_, rfl⟩
  rw [← hz]
  rfl
theorem lineB_eq (s : List UInt8) {t : List UInt8} (ht : trimCR s = t) : lineB s = if (decide (s.length = 70002) || decide (70000 < t.length) || t.any oddB) = true then ([], true) else (t, false) := by
  subst ht; rfl
set_option maxRecDepth 20000 in
theorem line_any {w : World} {B p : Nat} {ao : Option Addr} {cap : Nat} {s : List UInt8} (h : LinAt w B p ao cap s) :
    Calls Try.prog 18 #[.pointer (some ⟨p, 0, none⟩)] w fun e w' => e = .returned (.tuple #[.string ⟨(lineB s).1.toArray⟩, .bool (lineB s).2]) ∧ Chg Non w w' := by
  obtain ⟨t, ht⟩ : ∃ t, trimCR s = t := ⟨_, rfl⟩
  rw [lineB_eq s ht]
  obtain ⟨W, hW⟩ : ∃ W, W = w.alloc (.cells #[.int .u8 13] 5) := ⟨_, rfl⟩
  have CW : Hid (Chg Non w W) := Lib.hid (by rw [hW]; exact (Chg.refl _ _).alloc _)
  have h2 := h.keep CW.out
  have k0 := h.c0
  have k2 := h2.c0
  have RC : Hid (Rd W w.heap.size (some ⟨w.heap.size, 0, none⟩) 1 1 [13]) := Lib.hid (by rw [hW]; exact Rd.of_block (heap_alloc_new w _) rfl (by decide))
  obtain ⟨b0, _, hrs⟩ := Rd.of_Own h2.own
  have RS := Lib.hid hrs
  have HT := Lib.hid ht
  have hle := h.le
  clear h h2 hrs
  have hC : ∀ (e : Ending) (w' : World), e = .returned (.slice ao (trimCR s).length cap) ∧ Rd W b0 ao (trimCR s).length cap (trimCR s) ∧ W = w' → e = .returned (.slice ao t.length cap) ∧ Rd W b0 ao t.length cap t ∧ W = w' := by rw [ht]; exact fun _ _ h => h
  have HC := Lib.hid hC
  clear hC ht
  by_cases e1 : s.length = 70002
  · have b1 : ((s.length : Int) == 70002) = true := by rw [e1]; rfl
    rw [decide_eq_true e1]
    clear e1
    go_enter Try.func18, Try.ntmps18
    go_wp2_with fail
    rw [← hW]
    clear hW
    refine Calls.mono (Calls.mono (TrimSuffix_CR RS.out RC.out) HC.out) ?_
    rintro e w' ⟨rfl, hr, rfl⟩
    clear hr
    go_wp2_with fail
    go_ret2
    exact ⟨rfl, CW.out⟩
  · have b1 : ((s.length : Int) == 70002) = false := by simp; omega
    rw [decide_eq_false e1, Bool.false_or]
    clear e1
    by_cases e2 : 70000 < t.length
    · have b2 : 70000 < (t.length : Int) := by omega
      rw [decide_eq_true e2, Bool.true_or]
      clear e2
      go_enter Try.func18, Try.ntmps18
      go_wp2_with fail
      rw [← hW]
      clear hW
      refine Calls.mono (Calls.mono (TrimSuffix_CR RS.out RC.out) HC.out) ?_
      rintro e w' ⟨rfl, hr, rfl⟩
      clear hr
      go_wp2_with fail
      go_ret2
      exact ⟨rfl, CW.out⟩
    · have b2 : ¬ 70000 < (t.length : Int) := by omega
      rw [decide_eq_false e2, Bool.false_or]
      clear e2
      cases ho : t.any oddB with
      | true =>
        have HO := Lib.hid ho; clear ho
        go_enter Try.func18, Try.ntmps18
        go_wp2_with fail
        rw [← hW]
        clear hW
        refine Calls.mono (Calls.mono (TrimSuffix_CR RS.out RC.out) HC.out) ?_
        rintro e w' ⟨rfl, hr, rfl⟩
        have HR := Lib.hid hr; clear hr
        go_wp2_with (go_at_call 23; refine Calls.mono (ContainsFunc_odd HR.out HO.out) ?_; rintro e w' ⟨rfl, rfl⟩)
        go_ret2
        exact ⟨rfl, CW.out⟩
      | false =>
        have HO := Lib.hid ho; clear ho
        go_enter Try.func18, Try.ntmps18
        go_wp2_with fail
        rw [← hW]
        clear hW
        refine Calls.mono (Calls.mono (TrimSuffix_CR RS.out RC.out) HC.out) ?_
        rintro e w' ⟨rfl, hr, rfl⟩
        have hcv := hr.string (P := Try.prog) Try.underlying22 Try.underlying5 Try.underlying9
        have HR := Lib.hid hr; clear hr
        go_wp2_with (go_at_call 23; refine Calls.mono (ContainsFunc_odd HR.out HO.out) ?_; rintro e w' ⟨rfl, rfl⟩)
        go_ret2
        exact ⟨rfl, CW.out⟩
end Go.Proofs.Ytjjppbfknjeddaa
