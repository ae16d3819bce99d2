/- slices.Clip, slices.Clone, slices.Equal, at bytes; slices.Clip at rows of bytes. -/
import Derived.Test.YtbmopcmhokpchaaGreatDoorLogMem
import Derived.Lib.LazyBuf
namespace Go.Proofs.YtbmopcmhokpchaaGreatDoor
open Go.RowKit
set_option linter.unusedVariables false
attribute [local go_sem ↓] Go.wp_at_zero Go.wp_at_succ
theorem Clip_any (w : World) (ao : Option Addr) {n cap : Nat} (h : n ≤ cap) (hm : cap ≤ maxLen) : Calls Tryz.prog 34 #[.slice ao n cap] w fun e w' => e = .returned (.slice ao n n) ∧ w' = w := by
  unfold maxLen at hm
  go_enter Tryz.func34, Tryz.ntmps34
  go_wp2
  go_ret
  exact ⟨rfl, rfl⟩
theorem ClipRows_any (w : World) (ao : Option Addr) {n cap : Nat} (h : n ≤ cap) (hm : cap ≤ maxLen) : Calls Tryz.prog 76 #[.slice ao n cap] w fun e w' => e = .returned (.slice ao n n) ∧ w' = w := by
  unfold maxLen at hm
  go_enter Tryz.func76, Tryz.ntmps76
  go_wp2
  go_ret
  exact ⟨rfl, rfl⟩
theorem Clone_any {w : World} {b : Nat} {ao : Option Addr} {n cap : Nat} {bs : List UInt8} (h : Rd w b ao n cap bs) (hn : n ≤ 100000000) : Calls Tryz.prog 75 #[.slice ao n cap] w fun e w' => ∃ a' c', e = .returned (.slice a' n c') ∧ OwnZ w' w.heap.size 5 a' n c' (bs.map bv) ∧ Chg Non w w' := by
  have HR := Lib.hid h; clear h
  obtain ⟨i0, hi, hz0, hz1, hz2⟩ := info_parts Tryz.info_u8
  have Hi := Lib.hid hi; have Hz0 := Lib.hid hz0; have Hz1 := Lib.hid hz1; have Hz2 := Lib.hid hz2
  clear hi hz0 hz1 hz2
  have q22 : ∀ (w : World) (a : Option Addr) (l c : Nat), (binOp .eql 22 (.slice a l c) (.slice none 0 0)).run Tryz.prog w = .ok (.bool a.isNone) w := fun w a l c => Lib.run_eql_slice_nil w _ _ a l c 0 0 Tryz.underlying22
  by_cases hnil : ao = none
  · subst hnil
    have hcap := HR.out.2.2.2.1 rfl
    have hl := HR.out.2.1
    have hb := HR.out.1
    obtain rfl : n = 0 := by omega
    obtain rfl : cap = 0 := by omega
    obtain rfl : bs = [] := List.eq_nil_of_length_eq_zero hb
    clear hcap hl hb
    go_enter Tryz.func75, Tryz.ntmps75
    go_wp2
    go_ret
    exact ⟨none, 0, rfl, .inr ⟨rfl, rfl, rfl⟩, Chg.refl _ _⟩
  · obtain ⟨a, rfl⟩ : ∃ a, ao = some a := by cases ao with | none => exact absurd rfl hnil | some a => exact ⟨a, rfl⟩
    clear hnil
    go_enter Tryz.func75, Tryz.ntmps75
    go_wp2_with (at_builtin; refine wpList_append_Own rfl _ _ 22 22 rfl w.heap.size 5 1 1 i0 (.int .u8 0) Tryz.underlying22 Hi.out Hz0.out Hz1.out rfl Hz2.out (some ⟨w.heap.size, 0, none⟩) 0 0 [] rfl ⟨by simp, by omega, by omega, fun _ => rfl, fun a ha => by cases ha; exact ⟨_, #[], rfl, Nat.le_refl _, heap_alloc_new w _, by simp, by simp⟩⟩ _ n _ rfl ((HR.out.chg (S := Non) ((Chg.refl _ w).alloc (.cells #[] 5)) (fun h => h)).src Tryz.underlying22) (by unfold maxLen; omega) (by omega) (by simp) ?_; intro a1 c1 w1 hown hchg hb _; rw [Nat.zero_add, List.nil_append] at hown; rw [Nat.zero_add]; have O1 := Lib.hid hown; have C1 : Hid (Chg Non w w1) := Lib.hid (((Chg.refl _ w).alloc _).next hchg (fun i hi e => by have := e.1; simp [blk] at this; omega)); clear hown hchg hb)
    go_ret
    exact ⟨a1, c1, rfl, .inl O1.out, C1.out⟩
set_option maxHeartbeats 1000000 in
theorem Equal_any {w : World} {b1 b2 : Nat} {a1 a2 : Option Addr} {n c1 c2 : Nat} {xs ys : List UInt8} (h1 : Rd w b1 a1 n c1 xs) (h2 : Rd w b2 a2 n c2 ys) : Calls Tryz.prog 106 #[.slice a1 n c1, .slice a2 n c2] w fun e w' => e = .returned (.bool (decide (xs = ys))) ∧ ∃ q, w' = w.drewN q := by
  have hle := h1.2.1
  have hm := h1.2.2.1
  have hle2 := h2.2.1
  have hm2 := h2.2.2.1
  unfold maxLen at hm hm2
  have H1 := Lib.hid h1; have H2 := Lib.hid h2
  clear h1 h2
  go_enter Tryz.func106, Tryz.ntmps106
  go_wp2
  go_loopw [13] (fun i wr => ∃ (k q : Nat), k ≤ n ∧ i = .int .i64 (k : Int) ∧ wr = w.drewN q ∧ xs.take k = ys.take k) (fun i _ => n - (intOf i).toNat)
  case atStart => exact ⟨0, 0, by omega, rfl, rfl, rfl⟩
  case round =>
    obtain ⟨k, q, hk, rfl, rfl, heq⟩ := hrel
    have HE := Lib.hid heq
    clear heq
    by_cases hlt : k < n
    · obtain ⟨o1, rfl, r1⟩ := H1.out.2.2.2.2 (by omega)
      obtain ⟨o2, rfl, r2⟩ := H2.out.2.2.2.2 (by omega)
      have d1 := r1 k hlt
      have d2 := r2 k hlt
      have l1 := H1.out.1
      have l2 := H2.out.1
      have t1 : xs.take (k + 1) = xs.take k ++ [xs.getD k 0] := by
        have hl : k < xs.length := by omega
        rw [List.take_succ_eq_append_getElem hl]; simp [List.getD, hl]
      have t2 : ys.take (k + 1) = ys.take k ++ [ys.getD k 0] := by
        have hl : k < ys.length := by omega
        rw [List.take_succ_eq_append_getElem hl]; simp [List.getD, hl]
      have T1 := Lib.hid t1; have T2 := Lib.hid t2
      clear t1 t2 r1 r2
      obtain ⟨x, hx⟩ : ∃ x, xs.getD k 0 = x := ⟨_, rfl⟩
      obtain ⟨y, hy⟩ : ∃ y, ys.getD k 0 = y := ⟨_, rfl⟩
      rw [hx] at d1 T1; rw [hy] at d2 T2
      simp only [bv] at d1 d2
      have hxy := Lib.hid (And.intro hx hy)
      clear hx hy
      have hx3 := x.toNat_lt; have hy3 := y.toNat_lt
      have k0 : (0 : Int) ≤ (k : Int) := by omega
      have k1 : (k : Int) < (n : Int) := by omega
      by_cases hxe : x = y
      · subst hxe
        go_wp2
        go_quiet (fail)
        go_wp2
        go_roundw
        case rel => exact ⟨k + 1, _, by omega, by go_num, by first | rfl | simp only [World.drewN_drewN], by rw [T1.out, T2.out, HE.out]⟩
        case measure => simp [intOf]; omega
      · have hne : ((x.toNat : Int) == (y.toNat : Int)) = false := by
          rw [beq_eq_false_iff_ne]; intro e; exact hxe (UInt8.toNat_inj.1 (by omega))
        have hd : decide (xs = ys) = false := by
          rw [decide_eq_false_iff_not]
          intro e
          subst e
          have := hxy.out
          exact hxe (this.1.symm.trans this.2)
        go_wp2
        go_quiet (fail)
        go_wp2
        go_ret
        exact ⟨by first | rfl | (rw [hd]; rfl), _, by first | rfl | exact World.drewN_drewN _ _ _⟩
    · have k1 : ¬ (k : Int) < (n : Int) := by omega
      have hd : decide (xs = ys) = true := by
        rw [decide_eq_true_iff]
        have h1 := H1.out.1; have h2 := H2.out.1; have h3 := HE.out
        rwa [List.take_of_length_le (by omega), List.take_of_length_le (by omega)] at h3
      go_wp2
      go_ret
      exact ⟨by first | rfl | (rw [hd]; rfl), _, rfl⟩
end Go.Proofs.YtbmopcmhokpchaaGreatDoor
