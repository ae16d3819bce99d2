/- The document's frame: walked. -/
import Derived.Test.YtbmopcmhokpchaaGreatDoorShaRefOf
import Derived.Test.YtbmopcmhokpchaaGreatDoorLogFrame
namespace Go.Proofs.YtbmopcmhokpchaaGreatDoor
open Go.RowKit
set_option linter.unusedVariables false
set_option linter.unusedSimpArgs false
attribute [local go_sem ↓] Go.wp_at_zero Go.wp_at_succ
attribute [local go_sem ↓] run_load_row_op run_store_row_op in
set_option maxRecDepth 40000 in
set_option maxHeartbeats 2000000 in
theorem refFrame_any {w : World} {b : Nat} {ao : Option Addr} {n cap : Nat} {r : List UInt8} (h : Rd w b ao n cap r) (hn : n ≤ 100000) :
    Calls Tryz.prog 9 #[.slice ao n cap] w fun e w' => ∃ a' c', e = .returned (.tuple #[.slice a' (n + 12) c', .int .i64 0]) ∧ Own w' w.heap.size 5 1 a' (n + 12) c' ((frameB r).map bv) ∧ Chg Non w w' := by
  obtain ⟨i0, hi, hz0, hz1, hz2⟩ := info_parts Tryz.info_u8
  have Hi := Lib.hid hi; have Hz0 := Lib.hid hz0; have Hz1 := Lib.hid hz1; have Hz2 := Lib.hid hz2
  clear hi hz0 hz1 hz2
  have HR := Lib.hid h
  have HL := Lib.hid h.1
  clear h
  have HN := Lib.hid hn
  have hn2 : n ≤ 16777216 := by omega
  clear hn
  have h1 : ¬ 16777216 < (n : Int) := by omega
  go_enter Tryz.func9, Tryz.ntmps9
  have hlit : ∀ (C : Array Value), C = #[.int .u8 ((n : Int) / 16777216), .int .u8 ((n : Int) / 65536 % 256), .int .u8 ((n : Int) / 256 % 256), .int .u8 ((n : Int) % 256)] → Own (w.alloc (.cells C 5)) w.heap.size 5 1 (some ⟨w.heap.size, 0, none⟩) 4 4 ((len4 n).map bv) := by
    intro C hC
    have e : (len4 n).map bv = C.toList.take (4 * 1) := by rw [len4_cells n (by omega), hC, show ((n / 16777216 : Nat) : Int) = (n : Int) / 16777216 by omega, show ((n / 65536 % 256 : Nat) : Int) = (n : Int) / 65536 % 256 by omega, show ((n / 256 % 256 : Nat) : Int) = (n : Int) / 256 % 256 by omega, show ((n % 256 : Nat) : Int) = (n : Int) % 256 by omega]; rfl
    rw [e]
    exact Own.of_block (heap_alloc_new w _) (Nat.le_refl _) (Nat.le_refl _) (by decide) (by rw [hC]; simp)
  have HLIT := Lib.hid hlit
  clear hlit
  obtain ⟨S, hS⟩ : ∃ S, sha (len4 n ++ r) = S := ⟨_, rfl⟩
  have SL : Hid (S.length = 32) := Lib.hid (by rw [← hS, sha_length])
  have HS := Lib.hid hS
  clear hS
  go_wp2_with (first
    | (at_builtin; refine wpList_append_Own rfl _ _ 22 22 rfl w.heap.size 5 1 1 i0 (.int .u8 0) Tryz.underlying22 Hi.out Hz0.out Hz1.out rfl Hz2.out (some ⟨w.heap.size, 0, none⟩) 4 4 ((len4 n).map bv) rfl (HLIT.out _ rfl) _ n (r.map bv) rfl ((HR.out.chg (S := Non) ((Chg.refl _ w).alloc _) (fun h => h)).src Tryz.underlying22) (by unfold maxLen; omega) (by omega) (by simp) ?_; intro a1 c1 w1 hown hchg hb _; rw [← List.map_append] at hown; have O1 := Lib.hid hown; have C1 : Hid (Chg Non w w1) := Lib.hid (((Chg.refl _ w).alloc _).next hchg (fun i hi e => by have := e.1; simp [blk] at this; omega)); obtain ⟨g1, hg1, hr1⟩ := Rd.of_Own hown; have R1 := Lib.hid hr1; clear hown hchg hb hr1 hg1 HLIT HR)
    | (go_at_call 35; (with_reducible refine Calls.mono (refOf_any R1.out (by have := HN.out; omega)) ?_); rw [HS.out]; rintro e w3 ⟨rfl, hc3⟩; obtain ⟨W4, p4, q4, e4, c4, z4⟩ := new32 w3 SL.out; rw [zero32_lit] at p4 q4; have O4 := Lib.hid (O1.out.chg (hc3.trans c4) (fun _ _ h => h)); have C4 := Lib.hid ((C1.out.trans hc3).trans c4); have Z4 := Lib.hid (show w.heap.size ≤ W4.heap.size from C4.out.size); have R4 := Lib.hid (Rd.head (n := 8) (c := 32) e4 (by have := SL.out; omega) (by omega) (by unfold maxLen; omega)); clear hc3 e4 c4 z4 O1 C1 R1)
    | (at_builtin; refine wpList_append_Own rfl _ _ 22 22 rfl w.heap.size 5 1 1 i0 (.int .u8 0) Tryz.underlying22 Hi.out Hz0.out Hz1.out rfl Hz2.out a1 (4 + n) c1 ((len4 n ++ r).map bv) rfl O4.out _ 8 ((S.take 8).map bv) rfl (R4.out.src Tryz.underlying22) (by unfold maxLen; omega) (by omega) Z4.out ?_; intro a5 c5 w5 hown hchg hb _; rw [← List.map_append] at hown; have O5 := Lib.hid hown; have C5 := Lib.hid (C4.out.next hchg (fun i hi e => by have := (O4.out.lt i e.1).1; omega)); clear hown hchg hb))
  have e12 : 4 + n + 8 = n + 12 := by omega
  rw [e12] at O5 ⊢
  go_ret2
  refine ⟨a5, c5, rfl, ?_, C5.out⟩
  have hf : frameB r = (len4 n ++ r) ++ S.take 8 := by unfold frameB; rw [HL.out, HS.out]
  rw [hf]
  exact O5.out
end Go.Proofs.YtbmopcmhokpchaaGreatDoor
