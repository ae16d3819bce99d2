/- A record's frame; a record added: walked. -/
import Derived.Test.YtbmopcmhokpchaaGreatDoorLogSl
import Derived.Test.YtbmopcmhokpchaaGreatDoorDiskJoins
namespace Go.Proofs.YtbmopcmhokpchaaGreatDoor
open Go.RowKit
set_option linter.unusedVariables false
set_option linter.unusedSimpArgs false
attribute [local go_sem ↓] Go.wp_at_zero Go.wp_at_succ
theorem len4_cells (n : Nat) (hn : n ≤ 16777216) : ((len4 n).map bv) = [.int .u8 (((n / 16777216 : Nat) : Int)), .int .u8 (((n / 65536 % 256 : Nat) : Int)), .int .u8 (((n / 256 % 256 : Nat) : Int)), .int .u8 (((n % 256 : Nat) : Int))] := by
  simp only [len4, List.map_cons, List.map_nil, bv, UInt8.toNat_ofNat']
  have h : n / 16777216 % 2 ^ 8 = n / 16777216 := Nat.mod_eq_of_lt (by omega)
  rw [h]
theorem run_eql_slice_nil' (w : World) (a : Option Addr) (l c : Nat) : (binOp .eql 22 (.slice a l c) (.slice none 0 0)).run Tryz.prog w = .ok (.bool a.isNone) w := Lib.run_eql_slice_nil w _ _ a l c 0 0 Tryz.underlying22
theorem Own.clip {w : World} {B : Nat} {e : TypeId} {ao : Option Addr} {n cap : Nat} {xs : List Value} (h : Own w B e 1 ao n cap xs) (hn : 0 < n) : Own w B e 1 ao n n xs := by
  have := OwnZ.clip (.inl h : OwnZ w B e ao n cap xs)
  rcases this.case with ⟨_, h⟩ | ⟨h, _⟩
  · exact h
  · omega
attribute [local go_sem ↓] run_load_row_op run_store_row_op in
set_option maxRecDepth 40000 in
set_option maxHeartbeats 1000000 in
theorem Frame_any {w : World} {b : Nat} {ao : Option Addr} {n cap : Nat} {r : List UInt8} (h : Rd w b ao n cap r) (hn : n ≤ 16777216) :
    Calls Tryz.prog 8 #[.slice ao n cap] w fun e w' => ∃ a', e = .returned (.tuple #[.slice a' (n + 12) (n + 12), .int .i64 0]) ∧ Own w' w.heap.size 5 1 a' (n + 12) (n + 12) ((frameB r).map bv) ∧ Chg Non w w' := by
  obtain ⟨i0, hi, hz0, hz1, hz2⟩ := info_parts Tryz.info_u8
  have Hi := Lib.hid hi; have Hz0 := Lib.hid hz0; have Hz1 := Lib.hid hz1; have Hz2 := Lib.hid hz2
  clear hi hz0 hz1 hz2
  have HR := Lib.hid h
  have HL := Lib.hid h.1
  clear h
  have h1 : ¬ 16777216 < (n : Int) := by omega
  go_enter Tryz.func8, Tryz.ntmps8
  have hlit : ∀ (C : Array Value), C = #[.int .u8 ((n : Int) / 16777216), .int .u8 ((n : Int) / 65536 % 256), .int .u8 ((n : Int) / 256 % 256), .int .u8 ((n : Int) % 256)] → Own (w.alloc (.cells C 5)) w.heap.size 5 1 (some ⟨w.heap.size, 0, none⟩) 4 4 ((len4 n).map bv) := by
    intro C hC
    have e : (len4 n).map bv = C.toList.take (4 * 1) := by rw [len4_cells n hn, hC, show ((n / 16777216 : Nat) : Int) = (n : Int) / 16777216 by omega, show ((n / 65536 % 256 : Nat) : Int) = (n : Int) / 65536 % 256 by omega, show ((n / 256 % 256 : Nat) : Int) = (n : Int) / 256 % 256 by omega, show ((n % 256 : Nat) : Int) = (n : Int) % 256 by omega]; rfl
    rw [e]
    exact Own.of_block (heap_alloc_new w _) (Nat.le_refl _) (Nat.le_refl _) (by decide) (by rw [hC]; simp)
  have HLIT := Lib.hid hlit
  clear hlit
  obtain ⟨S, hS⟩ : ∃ S, sha (len4 n ++ r) = S := ⟨_, rfl⟩
  have SL : Hid (S.length = 32) := Lib.hid (by rw [← hS, sha_length])
  have HS := Lib.hid hS
  clear hS
  go_wp2_with (first
    | (at_builtin; refine wpList_append_Own rfl _ _ 22 22 rfl w.heap.size 5 1 1 i0 (.int .u8 0) Tryz.underlying22 Hi.out Hz0.out Hz1.out rfl Hz2.out (some ⟨w.heap.size, 0, none⟩) 4 4 ((len4 n).map bv) rfl (HLIT.out _ rfl) _ n (r.map bv) rfl ((HR.out.chg (S := Non) ((Chg.refl _ w).alloc _) (fun h => h)).src Tryz.underlying22) (by unfold maxLen; omega) (by omega) (by simp) ?_; intro a1 c1 w1 hown hchg hb _; rw [← List.map_append] at hown; have O1 := Lib.hid hown; have C1 : Hid (Chg Non w w1) := Lib.hid (((Chg.refl _ w).alloc _).next hchg (fun i hi e => by have := e.1; simp [blk] at this; omega)); obtain ⟨g1, hg1, hr1⟩ := Rd.of_Own hown; have R1 := Lib.hid hr1; clear hown hchg hb hr1 hg1 HLIT HR)
    | (go_at_call 33; (with_reducible refine Calls.mono (Of_any R1.out (by omega)) ?_); rw [HS.out]; rintro e w3 ⟨rfl, hc3⟩; obtain ⟨W4, p4, q4, e4, c4, z4⟩ := new32 w3 SL.out; rw [zero32_lit] at p4 q4; have O4 := Lib.hid (O1.out.chg (hc3.trans c4) (fun _ _ h => h)); have C4 := Lib.hid ((C1.out.trans hc3).trans c4); have Z4 := Lib.hid (show w.heap.size ≤ W4.heap.size from C4.out.size); have R4 := Lib.hid (Rd.head (n := 8) (c := 32) e4 (by have := SL.out; omega) (by omega) (by unfold maxLen; omega)); clear hc3 e4 c4 z4 O1 C1 R1)
    | (at_builtin; refine wpList_append_Own rfl _ _ 22 22 rfl w.heap.size 5 1 1 i0 (.int .u8 0) Tryz.underlying22 Hi.out Hz0.out Hz1.out rfl Hz2.out a1 (4 + n) c1 ((len4 n ++ r).map bv) rfl O4.out _ 8 ((S.take 8).map bv) rfl (R4.out.src Tryz.underlying22) (by unfold maxLen; omega) (by omega) Z4.out ?_; intro a5 c5 w5 hown hchg hb _; rw [← List.map_append] at hown; have O5 := Lib.hid hown; have C5 := Lib.hid (C4.out.next hchg (fun i hi e => by have := (O4.out.lt i e.1).1; omega)); clear hown hchg hb)
    | (go_at_call 34; (with_reducible refine Calls.mono (Clip_any _ _ (n := 4 + n + 8) (cap := c5) O5.out.le.1 O5.out.le.2) ?_); rintro e w6 ⟨rfl, rfl⟩))
  have e12 : 4 + n + 8 = n + 12 := by omega
  rw [e12] at O5 ⊢
  go_ret2
  refine ⟨a5, rfl, ?_, C5.out⟩
  have hf : frameB r = (len4 n ++ r) ++ S.take 8 := by unfold frameB; rw [HL.out, HS.out]
  rw [hf]
  exact O5.out.clip (by omega)
/-- What an append leaves, whether there is room or not. -/
structure DiskTo (w w' : World) (B p : Nat) (ao ao' : Option Addr) (cap' size sure : Nat) (bs : List UInt8) : Prop where
  at_ : DiskAt w' B p ao' cap' size sure bs
  chg : Chg (fun k => k = p ∨ some k = blk ao) w w'
  new : ∀ k, some k = blk ao' → some k = blk ao ∨ w.heap.size ≤ k
theorem DiskTo.trans {w w1 w2 : World} {B p : Nat} {ao a1 a2 : Option Addr} {c1 c2 size s1 s2 : Nat} {b1 b2 : List UInt8} (h : DiskTo w w1 B p ao a1 c1 size s1 b1) (k : DiskTo w1 w2 B p a1 a2 c2 size s2 b2) : DiskTo w w2 B p ao a2 c2 size s2 b2 :=
  ⟨k.at_, h.chg.next k.chg (fun i hi e => by
    rcases e with e | e
    · exact .inl e
    · rcases h.new i e with e | e
      · exact .inr e
      · omega), fun i hi => by
    rcases k.new i hi with e | e
    · exact h.new i e
    · exact .inr (Nat.le_trans h.chg.size e)⟩
theorem DiskTo.non {w w1 w2 : World} {B p : Nat} {ao a1 : Option Addr} {c1 size s1 : Nat} {b1 : List UInt8} (h : DiskTo w w1 B p ao a1 c1 size s1 b1) (k : Chg Non w1 w2) : DiskTo w w2 B p ao a1 c1 size s1 b1 :=
  ⟨h.at_.chg k (fun h => h) (fun _ _ h => h), h.chg.next k (fun _ _ h => h.elim), h.new⟩
theorem DiskTo.sync {w w1 w2 : World} {B p : Nat} {ao a1 : Option Addr} {c1 size s1 s2 : Nat} {b1 : List UInt8} (h : DiskTo w w1 B p ao a1 c1 size s1 b1) (hd : DiskAt w2 B p a1 c1 size s2 b1) (k : Chg (fun k => k = p) w1 w2) : DiskTo w w2 B p ao a1 c1 size s2 b1 :=
  ⟨hd, h.chg.next k (fun _ _ h => .inl h), h.new⟩
theorem Append_to {w : World} {B p : Nat} {ao : Option Addr} {cap size sure : Nat} {bs : List UInt8} (h : DiskAt w B p ao cap size sure bs) {b2 : Nat} {a2 : Option Addr} {n c2 : Nat} {cs : List UInt8} (hr : Rd w b2 a2 n c2 cs) :
    Calls Tryz.prog 15 #[.pointer (some ⟨p, 0, none⟩), .slice a2 n c2] w fun e w' => ∃ (f : Int) (ao' : Option Addr) (cap' : Nat), e = .returned (.int .i64 f) ∧
      ((bs.length + n ≤ size ∧ f = 0 ∧ DiskTo w w' B p ao ao' cap' size sure (bs ++ cs)) ∨ (size < bs.length + n ∧ f = 7 ∧ DiskTo w w' B p ao ao' cap' size sure bs)) := by
  by_cases hn : bs.length + n ≤ size
  · refine Calls.mono (Append_yes h hr hn) ?_
    rintro e w' ⟨rfl, ao', cap', h1, h2, h3⟩
    refine ⟨0, ao', cap', rfl, .inl ⟨hn, rfl, h1, h2, fun k hk => ?_⟩⟩
    rcases h3 with h3 | h3
    · exact .inl (hk.trans h3)
    · rw [h3] at hk
      cases hk
      exact .inr (Nat.le_refl _)
  · refine Calls.mono (Append_no h (by omega) (Nat.le_trans hr.2.1 hr.2.2.1)) ?_
    rintro e w' ⟨rfl, q, rfl⟩
    exact ⟨7, ao, cap, rfl, .inr ⟨by omega, rfl, h.drewN q, (Chg.refl _ _).drewN q, fun k hk => .inl hk⟩⟩
/-- A record added, where there is room; else nothing is changed. -/
theorem Add_any {w : World} {B p : Nat} {ao : Option Addr} {cap size sure : Nat} {bs : List UInt8} (h : DiskAt w B p ao cap size sure bs) {b2 : Nat} {a2 : Option Addr} {n c2 : Nat} {r : List UInt8} (hr : Rd w b2 a2 n c2 r) (hb : ¬ (b2 = p ∨ some b2 = blk ao)) (hn : n ≤ 16777216) :
    Calls Tryz.prog 32 #[.pointer (some ⟨p, 0, none⟩), .slice a2 n c2] w fun e w' => ∃ (f : Int) (ao' : Option Addr) (cap' : Nat), e = .returned (.int .i64 f) ∧
      ((bs.length + (n + 12) ≤ size ∧ f = 0 ∧ DiskTo w w' B p ao ao' cap' size (bs.length + (n + 12)) (bs ++ frameB r)) ∨ (size < bs.length + (n + 12) ∧ f = 7 ∧ DiskTo w w' B p ao ao' cap' size sure bs)) := by
  have H := Lib.hid h
  have HR := Lib.hid hr
  have HB := Lib.hid hb
  clear h hr hb
  have BL := Lib.hid (frameB_length r)
  have RL := Lib.hid HR.out.1
  go_enter Tryz.func32, Tryz.ntmps32
  go_wp2_with fail
  refine Calls.mono (Append_to H.out (Rd.nil w 0)) ?_
  rintro e w1 ⟨f, ao1, cap1, rfl, ⟨_, rfl, hd1⟩ | ⟨hgt, _⟩⟩
  · rw [List.append_nil] at hd1
    have D1 := Lib.hid hd1
    clear hd1
    go_wp2_with fail
    refine Calls.mono (Frame_any (HR.out.chg D1.out.chg HB.out) hn) ?_
    rintro e w2 ⟨a3, rfl, ho2, hc2⟩
    obtain ⟨g2, hg2, hr2⟩ := Rd.of_Own ho2
    have D2 := Lib.hid (D1.out.non hc2)
    have R2 := Lib.hid hr2
    clear ho2 hc2 hg2 hr2
    go_wp2_with fail
    refine Calls.mono (Append_to D2.out.at_ R2.out) ?_
    rintro e w3 ⟨f, ao3, cap3, rfl, ⟨hle, rfl, hd3⟩ | ⟨hgt, rfl, hd3⟩⟩
    · have D3 := Lib.hid (D2.out.trans hd3)
      clear hd3
      go_wp2_with fail
      refine Calls.mono (Sync_any D3.out.at_) ?_
      rintro e w4 ⟨rfl, hd4, hc4⟩
      have D4 := Lib.hid (D3.out.sync hd4 hc4)
      clear hd4 hc4
      go_wp2_with fail
      go_ret
      have e : (bs ++ frameB r).length = bs.length + (n + 12) := by rw [List.length_append, BL.out, RL.out]
      have hd := D4.out
      rw [e] at hd
      exact ⟨0, ao3, cap3, rfl, .inl ⟨hle, rfl, hd⟩⟩
    · have D3 := Lib.hid (D2.out.trans hd3)
      clear hd3
      go_wp2_with fail
      go_ret
      exact ⟨7, ao3, cap3, rfl, .inr ⟨hgt, rfl, D3.out⟩⟩
  · have := H.out.le
    omega
theorem Add_nil {w : World} {x : Value} :
    Calls Tryz.prog 32 #[.pointer none, x] w fun e w' => e = .returned (.int .i64 2) ∧ w = w' := by
  go_enter Tryz.func32, Tryz.ntmps32
  go_wp2_with (go_at_call 15; refine (Append_nil).mono ?_; rintro e w' ⟨rfl, rfl⟩)
  go_ret
  exact ⟨rfl, rfl⟩
end Go.Proofs.YtbmopcmhokpchaaGreatDoor
