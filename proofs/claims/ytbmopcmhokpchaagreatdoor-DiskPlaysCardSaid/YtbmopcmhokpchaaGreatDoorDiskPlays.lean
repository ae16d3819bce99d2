/- DiskPlays, walked. -/
import Derived.Test.YtbmopcmhokpchaaGreatDoorDiskPS
import Derived.Test.YtbmopcmhokpchaaGreatDoorLogFrames
import Derived.Deep.RegionHeld3
namespace Go.Proofs.YtbmopcmhokpchaaGreatDoor
open Go.RowKit
set_option linter.unusedVariables false
set_option linter.unusedSimpArgs false
attribute [local go_sem ↓] Go.wp_at_zero Go.wp_at_succ
set_option maxRecDepth 40000 in
set_option maxHeartbeats 8000000 in
theorem DiskPlays_any {w : World} {z : Int} (hz : (Lit.int .i64 z).wf = true) {ao : Option Addr} {len cap : Nat} (h : Acts w ao len cap) :
    Calls Tryz.prog 5 #[.int .i64 z, .slice ao len cap] w fun e w' => e = .returned (.bool true) ∧ Below w.heap.size w w' := by
  have le := h.1
  have hm := h.2.1
  unfold maxLen at hm
  have HA := Lib.hid h
  have H := Lib.hid h.2.2; clear h
  by_cases hl : 200 < len
  · go_enter Tryz.func5, Tryz.ntmps5
    go_wp2_with (first
      | (go_at_call 20; refine Calls.mono (great19_far HA.out hl) ?_; rintro e w1 ⟨rfl, rfl⟩)
      | (go_at_call 21; refine Calls.mono (lives19_any _) ?_; rintro e w1 ⟨rfl, hc1⟩))
    go_ret
    exact ⟨rfl, hc1.belowN⟩
  have hl2 : len ≤ 200 := by omega
  clear hl
  go_enter Tryz.func5, Tryz.ntmps5
  go_wp2_with fail
  refine Calls.mono (great19_near HA.out hl2) ?_
  rintro e w1 hE
  obtain ⟨gb, rfl, rfl, hnb⟩ := hE
  cases gb
  case true =>
    clear hnb
    go_wp2_with (go_at_call 21; refine Calls.mono (lives19_any _) ?_; rintro e w1 ⟨rfl, hc1⟩)
    go_ret
    exact ⟨rfl, hc1.belowN⟩
  case false =>
    have NBA := Lib.hid (hnb rfl)
    clear hnb
    by_cases hs : 0 ≤ z ∧ z ≤ 16777216
    rotate_left
    · have hs2 : z < 0 ∨ 16777216 < z := by omega
      clear hs
      go_wp2_with (first
        | (go_at_call 14; refine Calls.mono (New_no hs2) ?_; rintro e w1 ⟨rfl, rfl⟩)
        | (go_at_call 22; refine Calls.mono (mNew_no hs2) ?_; rintro e w1 ⟨rfl, rfl⟩)
        | (go_at_call 15; refine Calls.mono Append_nil ?_; rintro e w1 ⟨rfl, rfl⟩)
        | (go_at_call 19; refine Calls.mono Sure_nil ?_; rintro e w1 ⟨rfl, rfl⟩)
        | (go_at_call 18; refine Calls.mono Bytes_nil ?_; rintro e w1 ⟨rfl, rfl⟩)
        | (go_at_call 21; refine Calls.mono (lives19_any _) ?_; rintro e w1 ⟨rfl, hc1⟩))
      go_ret
      exact ⟨rfl, hc1.belowN⟩
    obtain ⟨hs0, hs1⟩ := hs
    obtain ⟨size, rfl⟩ := Int.eq_ofNat_of_zero_le hs0
    have hsz : size ≤ 16777216 := by omega
    clear hs0 hs1 hz
    go_wp2_with fail
    refine Calls.mono (New_yes hsz) ?_
    rintro e w1 ⟨rfl, hd1, hc1⟩
    have D1 := Lib.hid hd1; have C1 := Lib.hid hc1
    clear hd1 hc1
    go_wp2_with fail
    refine Calls.mono (mNew_yes hsz) ?_
    rintro e w2 ⟨rfl, hd2, hc2⟩
    have D2 := Lib.hid (D1.out.chg hc2 (fun h => h) (fun _ _ h => h)); have M2 := Lib.hid (hd2.mono C1.out.size); have C2 := Lib.hid (C1.out.trans hc2)
    clear hd2 hc2
    have PB : Hid (PS w (w2.alloc (.cells (bookRow 0 (.slice none 0 0) (.slice none 0 0) (.slice none 0 0)) 42 (0, 0))) w2.heap.size size w.heap.size none 0 0 [] w1.heap.size none 0 0 0 [] [] No w) :=
      Lib.hid ⟨D2.out.chg (S := Non) ((Chg.refl _ _).alloc _) (fun h => h) (fun _ _ h => h), M2.out.chg (S := Non) ((Chg.refl _ _).alloc _) (fun h => h) (fun _ _ h => h), fun x h => by simp [blk] at h, BookB.start C2.out (by rfl), by simp, fun _ h => h.elim, fun _ h => h.elim, (C2.out.alloc _).size, fun _ h => h.elim⟩
    clear D1 D2 M2
    go_wp2_with fail
    obtain ⟨k, hk⟩ : ∃ k, k = w2.heap.size := ⟨_, rfl⟩
    obtain ⟨p0, hp0⟩ : ∃ p0, p0 = w.heap.size := ⟨_, rfl⟩
    obtain ⟨q0, hq0⟩ : ∃ q0, q0 = w1.heap.size := ⟨_, rfl⟩
    have PB2 : Hid (PS w (w2.alloc (.cells (bookRow 0 (.slice none 0 0) (.slice none 0 0) (.slice none 0 0)) 42 (0, 0))) k size p0 none 0 0 [] q0 none 0 0 0 [] [] No w) := by rw [hk, hp0, hq0]; exact PB.out
    try rw [← hp0]
    try rw [← hq0]
    try rw [← hk]
    clear PB hk hp0 hq0
    go_loopw [5, 7, 10] (fun s5 s7 s10 wr => ∃ (i p q : Nat) (ao : Option Addr) (dc sure : Nat) (bs : List UInt8) (am : Option Addr) (m cm : Nat) (L : List Held), i ≤ len ∧ s5 = .pointer (some ⟨p, 0, none⟩) ∧ s7 = .pointer (some ⟨q, 0, none⟩) ∧ s10 = .int .i64 (i : Int) ∧ L.length = 2 * i ∧ PS w wr k size p ao dc sure bs q am m cm sure bs L No wr) (fun _ _ i _ => len - (intOf i).toNat)
    case atStart => exact ⟨0, p0, q0, none, 0, 0, [], none, 0, 0, [], by omega, rfl, rfl, rfl, rfl, PB2.out.look (Chg.refl _ _) No (fun _ h => h.elim)⟩
    case round =>
      clear PB2
      obtain ⟨i, p, q, da, dc, sure, bs, am, m, cm, L, hi, rfl, rfl, rfl, hL, hP⟩ := hrel
      have P := Lib.hid hP; have LL := Lib.hid hL
      have C := Lib.hid hP.bk.chg
      clear hP hL
      by_cases hlt : i < len
      · obtain ⟨b, off, rfl, hb, hA⟩ := H.out (by omega)
        obtain ⟨kd, zz, a, n, c, bb, bs1, h0, hk0, hk1, h1, h2, hwz, hr, hbb, hn⟩ := hA i hlt
        have hn2 := NBA.out i hlt b off rfl a n c h1
        clear hA hbb hn
        have g0 : wr.cell? ⟨b, off + i * 3, none⟩ = some (.int .u8 kd) := (C.out.cell (p := ⟨b, off + i * 3, none⟩) hb (fun h => h)).trans h0
        have g1 : wr.cell? ⟨b, off + i * 3 + 1, none⟩ = some (.slice a n c) := (C.out.cell (p := ⟨b, off + i * 3 + 1, none⟩) hb (fun h => h)).trans h1
        have g2 : wr.cell? ⟨b, off + i * 3 + 2, none⟩ = some (.int .i64 zz) := (C.out.cell (p := ⟨b, off + i * 3 + 2, none⟩) hb (fun h => h)).trans h2
        have R := Lib.hid hr
        have WZ := Lib.hid hwz
        clear hr h0 h1 h2 hwz
        go_wp2_with fail
        refine Calls.mono (TwinBytes_any (R.out.chg (C.out.alloc _) (fun h => h)) (by omega)) ?_
        rintro e w2 ⟨g, tc, rfl, ht, hc2⟩
        have T2 := Lib.hid ht
        have G2 := Lib.hid (Own.lt ht g rfl)
        have X2 : Hid (w2.heap[wr.heap.size]? = some (.cells #[.int .u8 kd, .slice a n c, .int .i64 zz] 62 (0, 0))) := Lib.hid ((hc2.block wr.heap.size (by simp) (fun h => h)).trans (heap_alloc_new wr _))
        have SZ2 := Lib.hid hc2.size
        have P2 : Hid (PS w w2 k size p da dc sure bs q am m cm sure bs L (XG wr.heap.size g) w2) := Lib.hid (P.out.look (((Chg.refl _ _).alloc _).trans hc2) (XG wr.heap.size g) (fun y hy => by
          have h1 := G2.out; have h2 := SZ2.out
          simp at h1 h2
          rcases hy with rfl | rfl <;> omega))
        have LT := Lib.hid P.out.lts
        clear ht hc2 g0 g1 g2
        have x0 : w2.cell? ⟨wr.heap.size, 0, none⟩ = some (.int .u8 kd) := P2.out.xcell X2.out 0
        have x1 : w2.cell? ⟨wr.heap.size, 1, none⟩ = some (.slice a n c) := P2.out.xcell X2.out 1
        have x2 : w2.cell? ⟨wr.heap.size, 2, none⟩ = some (.int .i64 zz) := P2.out.xcell X2.out 2
        have hcase : kd % 5 = 2 ∨ kd % 5 = 3 ∨ kd % 5 = 4 ∨ (kd % 5 ≠ 2 ∧ kd % 5 ≠ 3 ∧ kd % 5 ≠ 4) := by omega
        rcases hcase with hq | hq | hq | hq
        · have q1 : (kd % 5 == 2) = true := by simp [hq]
          clear hq
          go_wp2_with (first
            | (go_at_call 23; refine Calls.mono (Sync_any P2.out.d) ?_; rintro e w3 ⟨rfl, hd3, hc3⟩; rw [P2.out.md.len] at hd3; have P3 := Lib.hid (P2.out.dset hd3 (hc3.mono (fun _ _ h => .inl h)) (fun x h => .inl h)); clear hd3 hc3)
            | (go_at_call 24; refine Calls.mono (mSync P3.out.md) ?_; rintro e w5 ⟨rfl, hd5, hc5⟩; have P5 := Lib.hid (P3.out.mset hd5 hc5 (fun x h => .inl h)); clear hd5 hc5))
          try go_wp2_with fail
          refine Calls.mono P5.out.bytes ?_
          rintro e w6 ⟨ga, rfl, hoa, hga, hp6⟩
          have OA := Lib.hid hoa
          have P6 := Lib.hid hp6
          have GA := Lib.hid (Nat.le_trans P5.out.osz hga)
          have GD := Lib.hid (fun x (hx : x = ga) e => (Nat.lt_irrefl x (Nat.lt_of_lt_of_le (P5.out.d.own.lt x e).2 (Nat.le_trans hga (Nat.le_of_eq hx.symm))) : False))
          clear hoa hga hp6
          go_wp2_with (first
            | (go_at_call 30; refine Calls.mono P6.out.mbytes ?_; rintro e w7 ⟨a7, c7, b7, rfl, hr7, hc7, hp7⟩; have R7 := Lib.hid hr7; have P7 := Lib.hid hp7; have OA7 := Lib.hid (OA.out.chg hc7 (fun _ _ h => h)); obtain ⟨b8, _, hr8⟩ := Rd.of_Own OA7.out; have R8 := Lib.hid hr8; have x7 := P7.out.xcell X2.out 1; clear hr7 hp7 hc7 hr8)
            | (go_at_call 10; refine Calls.mono (SameBytes_yes R8.out R7.out) ?_; rintro e w8 ⟨rfl, z8, rfl⟩)
            | (go_at_call 19; refine Calls.mono (Sure_any (P7.out.drewN z8).d) ?_; rintro e w' ⟨rfl, rfl⟩)
            | (go_at_call 31; refine Calls.mono (mSure (P7.out.drewN z8).md) ?_; rintro e w' ⟨rfl, rfl⟩)
            | (go_at_call 11; refine Calls.mono (LeftBytes_any ((P7.out.drewN z8).twin T2.out) (R.out.chg (P7.out.drewN z8).bk.chg (fun h => h))) ?_; rintro e w9 ⟨rfl, z9, rfl⟩))
          obtain ⟨XT, hXT⟩ := twin_ownZ ((P7.out.drewN (z8 + z9)).twin T2.out)
          refine Calls.mono (PS.keep (P7.out.drewN (z8 + z9)) (by have := LL.out; omega) (hXT.mono (by have := C.out.size; simp; omega)) (by omega) (fun x hx => by have h1 := (P7.out.op g (.inr rfl)).2.2; rw [blkZ_at hx]; exact h1) (fun x hx gg hgg e => by have h1 := (LT.out gg hgg x e).2; have h2 := blkZ_at hx; have h3 := G2.out.1; simp at h2 h3; omega)) ?_
          rintro e w10 ⟨⟨v10, rfl⟩, hp10, hc10⟩
          have P10 := Lib.hid hp10
          have OB : OwnZ (w7.drewN (z8 + z9)) w.heap.size 5 (some ⟨ga, 0, none⟩) _ _ _ := .inl (OA7.out.drewN (z8 + z9))
          have OA10 := Lib.hid (OB.chg hc10 (BS.not_ownZ OB (by decide) (by decide)))
          clear hp10 hc10 hXT OB
          go_wp2_with fail
          refine Calls.mono (PS.keep P10.out (by have := LL.out; simp; omega) OA10.out (by have h1 := P10.out.md.le; have h2 := P10.out.md.max; omega) (fun x hx => GD.out x (blkZ_at hx)) (fun x hx gg hgg e => by
            have h2 := blkZ_at hx
            have h4 := GA.out
            have h5 := SZ2.out
            have h6 := G2.out.2
            simp at h2 h5
            rcases List.mem_append.1 hgg with hgg | hgg
            · have h1 := (LT.out gg hgg x e).2; omega
            · rw [List.mem_singleton.1 hgg] at e
              have h3 := blkZ_at e
              simp at h3
              omega)) ?_
          rintro e w11 ⟨⟨v11, rfl⟩, hp11, _⟩
          have P11 := Lib.hid hp11
          clear hp11
          go_wp2_with fail
          go_roundw
          case rel => exact ⟨i + 1, _, _, _, _, _, _, _, _, _, _, by omega, rfl, rfl, by go_num, by have := LL.out; simp; omega, P11.out⟩
          case measure => simp [intOf]; omega
        · have q1 : (kd % 5 == 2) = false := by simp [hq]
          have q2 : (kd % 5 == 3) = true := by simp [hq]
          clear hq
          by_cases hz : 0 ≤ zz ∧ zz ≤ m
          · obtain ⟨s, rfl⟩ := Int.eq_ofNat_of_zero_le hz.1
            have hsm : s ≤ m := by omega
            clear hz
            go_wp2_with fail
            go_region_held3 (fun w' => w'.cell? ⟨wr.heap.size, 2, none⟩ = some (.int .i64 (s : Int))) (first | exact x2 | exact x3 | exact x5) (first
              | (go_at_call 25; refine Calls.mono (Cut_yes (P2.out.drewN 1).d (s := s) (by rw [P2.out.md.len]; exact hsm)) ?_; rintro e w3 ⟨rfl, hd3, hc3⟩; have P3 := Lib.hid ((P2.out.drewN 1).dset hd3 (hc3.mono (fun _ _ h => .inl h)) (fun x h => .inl h)); have x3 := P3.out.xcell X2.out 2; clear hd3 hc3)
              | (go_at_call 26; refine Calls.mono (mCut_yes P3.out.md hsm) ?_; rintro e w5 ⟨rfl, a5, c5, hd5, hc5, hn5⟩; have P5 := Lib.hid (P3.out.mset hd5 hc5 (fun x h => .inr (hn5 x h))); have x5 := P5.out.xcell X2.out 2; clear hd5 hc5 hn5))
            try go_wp2_with fail
            refine Calls.mono P5.out.bytes ?_
            rintro e w6 ⟨ga, rfl, hoa, hga, hp6⟩
            have OA := Lib.hid hoa
            have P6 := Lib.hid hp6
            have GA := Lib.hid (Nat.le_trans P5.out.osz hga)
            have GD := Lib.hid (fun x (hx : x = ga) e => (Nat.lt_irrefl x (Nat.lt_of_lt_of_le (P5.out.d.own.lt x e).2 (Nat.le_trans hga (Nat.le_of_eq hx.symm))) : False))
            clear hoa hga hp6
            go_wp2_with (first
              | (go_at_call 30; refine Calls.mono P6.out.mbytes ?_; rintro e w7 ⟨a7, c7, b7, rfl, hr7, hc7, hp7⟩; have R7 := Lib.hid hr7; have P7 := Lib.hid hp7; have OA7 := Lib.hid (OA.out.chg hc7 (fun _ _ h => h)); obtain ⟨b8, _, hr8⟩ := Rd.of_Own OA7.out; have R8 := Lib.hid hr8; have x7 := P7.out.xcell X2.out 1; clear hr7 hp7 hc7 hr8)
              | (go_at_call 10; refine Calls.mono (SameBytes_yes R8.out R7.out) ?_; rintro e w8 ⟨rfl, z8, rfl⟩)
              | (go_at_call 19; refine Calls.mono (Sure_any (P7.out.drewN z8).d) ?_; rintro e w' ⟨rfl, rfl⟩)
              | (go_at_call 31; refine Calls.mono (mSure (P7.out.drewN z8).md) ?_; rintro e w' ⟨rfl, rfl⟩)
              | (go_at_call 11; refine Calls.mono (LeftBytes_any ((P7.out.drewN z8).twin T2.out) (R.out.chg (P7.out.drewN z8).bk.chg (fun h => h))) ?_; rintro e w9 ⟨rfl, z9, rfl⟩))
            obtain ⟨XT, hXT⟩ := twin_ownZ ((P7.out.drewN (z8 + z9)).twin T2.out)
            refine Calls.mono (PS.keep (P7.out.drewN (z8 + z9)) (by have := LL.out; omega) (hXT.mono (by have := C.out.size; simp; omega)) (by omega) (fun x hx => by have h1 := (P7.out.op g (.inr rfl)).2.2; rw [blkZ_at hx]; exact h1) (fun x hx gg hgg e => by have h1 := (LT.out gg hgg x e).2; have h2 := blkZ_at hx; have h3 := G2.out.1; simp at h2 h3; omega)) ?_
            rintro e w10 ⟨⟨v10, rfl⟩, hp10, hc10⟩
            have P10 := Lib.hid hp10
            have OB : OwnZ (w7.drewN (z8 + z9)) w.heap.size 5 (some ⟨ga, 0, none⟩) _ _ _ := .inl (OA7.out.drewN (z8 + z9))
            have OA10 := Lib.hid (OB.chg hc10 (BS.not_ownZ OB (by decide) (by decide)))
            clear hp10 hc10 hXT OB
            go_wp2_with fail
            refine Calls.mono (PS.keep P10.out (by have := LL.out; simp; omega) OA10.out (by have h1 := P10.out.md.le; have h2 := P10.out.md.max; omega) (fun x hx => GD.out x (blkZ_at hx)) (fun x hx gg hgg e => by
              have h2 := blkZ_at hx
              have h4 := GA.out
              have h5 := SZ2.out
              have h6 := G2.out.2
              simp at h2 h5
              rcases List.mem_append.1 hgg with hgg | hgg
              · have h1 := (LT.out gg hgg x e).2; omega
              · rw [List.mem_singleton.1 hgg] at e
                have h3 := blkZ_at e
                simp at h3
                omega)) ?_
            rintro e w11 ⟨⟨v11, rfl⟩, hp11, _⟩
            have P11 := Lib.hid hp11
            clear hp11
            go_wp2_with fail
            go_roundw
            case rel => exact ⟨i + 1, _, _, _, _, _, _, _, _, _, _, by omega, rfl, rfl, by go_num, by have := LL.out; simp; omega, P11.out⟩
            case measure => simp [intOf]; omega
          · have hz2 : zz < 0 ∨ (m : Int) < zz := by omega
            clear hz
            go_wp2_with fail
            go_region_held3 (fun w' => w'.cell? ⟨wr.heap.size, 2, none⟩ = some (.int .i64 zz)) (first | exact x2) (first
              | (go_at_call 25; refine Calls.mono (Cut_no (P2.out.drewN 1).d (s := zz) (by rw [P2.out.md.len]; exact hz2)) ?_; rintro e w3 ⟨rfl, rfl⟩)
              | (go_at_call 26; refine Calls.mono (mCut_no (P2.out.drewN 1).md hz2) ?_; rintro e w5 ⟨rfl, rfl⟩))
            have P5 := Lib.hid (P2.out.drewN 1)
            try go_wp2_with fail
            refine Calls.mono P5.out.bytes ?_
            rintro e w6 ⟨ga, rfl, hoa, hga, hp6⟩
            have OA := Lib.hid hoa
            have P6 := Lib.hid hp6
            have GA := Lib.hid (Nat.le_trans P5.out.osz hga)
            have GD := Lib.hid (fun x (hx : x = ga) e => (Nat.lt_irrefl x (Nat.lt_of_lt_of_le (P5.out.d.own.lt x e).2 (Nat.le_trans hga (Nat.le_of_eq hx.symm))) : False))
            clear hoa hga hp6
            go_wp2_with (first
              | (go_at_call 30; refine Calls.mono P6.out.mbytes ?_; rintro e w7 ⟨a7, c7, b7, rfl, hr7, hc7, hp7⟩; have R7 := Lib.hid hr7; have P7 := Lib.hid hp7; have OA7 := Lib.hid (OA.out.chg hc7 (fun _ _ h => h)); obtain ⟨b8, _, hr8⟩ := Rd.of_Own OA7.out; have R8 := Lib.hid hr8; have x7 := P7.out.xcell X2.out 1; clear hr7 hp7 hc7 hr8)
              | (go_at_call 10; refine Calls.mono (SameBytes_yes R8.out R7.out) ?_; rintro e w8 ⟨rfl, z8, rfl⟩)
              | (go_at_call 19; refine Calls.mono (Sure_any (P7.out.drewN z8).d) ?_; rintro e w' ⟨rfl, rfl⟩)
              | (go_at_call 31; refine Calls.mono (mSure (P7.out.drewN z8).md) ?_; rintro e w' ⟨rfl, rfl⟩)
              | (go_at_call 11; refine Calls.mono (LeftBytes_any ((P7.out.drewN z8).twin T2.out) (R.out.chg (P7.out.drewN z8).bk.chg (fun h => h))) ?_; rintro e w9 ⟨rfl, z9, rfl⟩))
            obtain ⟨XT, hXT⟩ := twin_ownZ ((P7.out.drewN (z8 + z9)).twin T2.out)
            refine Calls.mono (PS.keep (P7.out.drewN (z8 + z9)) (by have := LL.out; omega) (hXT.mono (by have := C.out.size; simp; omega)) (by omega) (fun x hx => by have h1 := (P7.out.op g (.inr rfl)).2.2; rw [blkZ_at hx]; exact h1) (fun x hx gg hgg e => by have h1 := (LT.out gg hgg x e).2; have h2 := blkZ_at hx; have h3 := G2.out.1; simp at h2 h3; omega)) ?_
            rintro e w10 ⟨⟨v10, rfl⟩, hp10, hc10⟩
            have P10 := Lib.hid hp10
            have OB : OwnZ (w7.drewN (z8 + z9)) w.heap.size 5 (some ⟨ga, 0, none⟩) _ _ _ := .inl (OA7.out.drewN (z8 + z9))
            have OA10 := Lib.hid (OB.chg hc10 (BS.not_ownZ OB (by decide) (by decide)))
            clear hp10 hc10 hXT OB
            go_wp2_with fail
            refine Calls.mono (PS.keep P10.out (by have := LL.out; simp; omega) OA10.out (by have h1 := P10.out.md.le; have h2 := P10.out.md.max; omega) (fun x hx => GD.out x (blkZ_at hx)) (fun x hx gg hgg e => by
              have h2 := blkZ_at hx
              have h4 := GA.out
              have h5 := SZ2.out
              have h6 := G2.out.2
              simp at h2 h5
              rcases List.mem_append.1 hgg with hgg | hgg
              · have h1 := (LT.out gg hgg x e).2; omega
              · rw [List.mem_singleton.1 hgg] at e
                have h3 := blkZ_at e
                simp at h3
                omega)) ?_
            rintro e w11 ⟨⟨v11, rfl⟩, hp11, _⟩
            have P11 := Lib.hid hp11
            clear hp11
            go_wp2_with fail
            go_roundw
            case rel => exact ⟨i + 1, _, _, _, _, _, _, _, _, _, _, by omega, rfl, rfl, by go_num, by have := LL.out; simp; omega, P11.out⟩
            case measure => simp [intOf]; omega
        · have q1 : (kd % 5 == 2) = false := by simp [hq]
          have q2 : (kd % 5 == 3) = false := by simp [hq]
          have q3 : (kd % 5 == 4) = true := by simp [hq]
          clear hq
          by_cases hz : zz < 0
          · go_wp2_with (first
              | (go_at_call 27; refine Calls.mono (Fail_no P2.out.d hz) ?_; rintro e w3 ⟨rfl, rfl⟩)
              | (go_at_call 28; refine Calls.mono (mFail_no hz) ?_; rintro e w3 ⟨rfl, rfl⟩))
            have P5 := Lib.hid P2.out
            try go_wp2_with fail
            refine Calls.mono P5.out.bytes ?_
            rintro e w6 ⟨ga, rfl, hoa, hga, hp6⟩
            have OA := Lib.hid hoa
            have P6 := Lib.hid hp6
            have GA := Lib.hid (Nat.le_trans P5.out.osz hga)
            have GD := Lib.hid (fun x (hx : x = ga) e => (Nat.lt_irrefl x (Nat.lt_of_lt_of_le (P5.out.d.own.lt x e).2 (Nat.le_trans hga (Nat.le_of_eq hx.symm))) : False))
            clear hoa hga hp6
            go_wp2_with (first
              | (go_at_call 30; refine Calls.mono P6.out.mbytes ?_; rintro e w7 ⟨a7, c7, b7, rfl, hr7, hc7, hp7⟩; have R7 := Lib.hid hr7; have P7 := Lib.hid hp7; have OA7 := Lib.hid (OA.out.chg hc7 (fun _ _ h => h)); obtain ⟨b8, _, hr8⟩ := Rd.of_Own OA7.out; have R8 := Lib.hid hr8; have x7 := P7.out.xcell X2.out 1; clear hr7 hp7 hc7 hr8)
              | (go_at_call 10; refine Calls.mono (SameBytes_yes R8.out R7.out) ?_; rintro e w8 ⟨rfl, z8, rfl⟩)
              | (go_at_call 19; refine Calls.mono (Sure_any (P7.out.drewN z8).d) ?_; rintro e w' ⟨rfl, rfl⟩)
              | (go_at_call 31; refine Calls.mono (mSure (P7.out.drewN z8).md) ?_; rintro e w' ⟨rfl, rfl⟩)
              | (go_at_call 11; refine Calls.mono (LeftBytes_any ((P7.out.drewN z8).twin T2.out) (R.out.chg (P7.out.drewN z8).bk.chg (fun h => h))) ?_; rintro e w9 ⟨rfl, z9, rfl⟩))
            obtain ⟨XT, hXT⟩ := twin_ownZ ((P7.out.drewN (z8 + z9)).twin T2.out)
            refine Calls.mono (PS.keep (P7.out.drewN (z8 + z9)) (by have := LL.out; omega) (hXT.mono (by have := C.out.size; simp; omega)) (by omega) (fun x hx => by have h1 := (P7.out.op g (.inr rfl)).2.2; rw [blkZ_at hx]; exact h1) (fun x hx gg hgg e => by have h1 := (LT.out gg hgg x e).2; have h2 := blkZ_at hx; have h3 := G2.out.1; simp at h2 h3; omega)) ?_
            rintro e w10 ⟨⟨v10, rfl⟩, hp10, hc10⟩
            have P10 := Lib.hid hp10
            have OB : OwnZ (w7.drewN (z8 + z9)) w.heap.size 5 (some ⟨ga, 0, none⟩) _ _ _ := .inl (OA7.out.drewN (z8 + z9))
            have OA10 := Lib.hid (OB.chg hc10 (BS.not_ownZ OB (by decide) (by decide)))
            clear hp10 hc10 hXT OB
            go_wp2_with fail
            refine Calls.mono (PS.keep P10.out (by have := LL.out; simp; omega) OA10.out (by have h1 := P10.out.md.le; have h2 := P10.out.md.max; omega) (fun x hx => GD.out x (blkZ_at hx)) (fun x hx gg hgg e => by
              have h2 := blkZ_at hx
              have h4 := GA.out
              have h5 := SZ2.out
              have h6 := G2.out.2
              simp at h2 h5
              rcases List.mem_append.1 hgg with hgg | hgg
              · have h1 := (LT.out gg hgg x e).2; omega
              · rw [List.mem_singleton.1 hgg] at e
                have h3 := blkZ_at e
                simp at h3
                omega)) ?_
            rintro e w11 ⟨⟨v11, rfl⟩, hp11, _⟩
            have P11 := Lib.hid hp11
            clear hp11
            go_wp2_with fail
            go_roundw
            case rel => exact ⟨i + 1, _, _, _, _, _, _, _, _, _, _, by omega, rfl, rfl, by go_num, by have := LL.out; simp; omega, P11.out⟩
            case measure => simp [intOf]; omega
          · obtain ⟨s, rfl⟩ := Int.eq_ofNat_of_zero_le (by omega : 0 ≤ zz)
            have hsm : s ≤ maxLen := by
              have := WZ.out
              simp [Lit.wf, IntKind.min, IntKind.max] at this
              unfold maxLen
              first | omega | (simp [IntKind.signed, IntKind.bits] at this; omega)
            clear hz
            obtain ⟨K, hK⟩ : ∃ K, K = min s (m - sure) := ⟨_, rfl⟩
            have HK := Lib.hid hK
            clear hK
            go_wp2_with (first
              | (go_at_call 27; refine Calls.mono (Fail_yes P2.out.d hsm) ?_; rintro e w3 ⟨p3, g3, rfl, hd3, hc3⟩; have e1 : min bs.length (sure + s) = sure + K := (by have h1 := HK.out; have h2 := P2.out.md.len; have h3 := P2.out.md.sure_le; omega); have e2 : bs.take (sure + s) = bs.take (sure + K) := (by rw [← e1, Nat.min_comm, ← List.take_take, List.take_length]); rw [e1, e2] at hd3; have P3 := Lib.hid (P2.out.dnew hd3 hc3); clear hd3 hc3 e1 e2; have x3 := P3.out.xcell X2.out 2)
              | (go_at_call 28; refine Calls.mono (mFail_yes P3.out.md hsm HK.out) ?_; rintro e w5 ⟨p5, a5, c5, rfl, hd5, hc5⟩; have P5 := Lib.hid (P3.out.mnew hd5 hc5); clear hd5 hc5))
            try go_wp2_with fail
            refine Calls.mono P5.out.bytes ?_
            rintro e w6 ⟨ga, rfl, hoa, hga, hp6⟩
            have OA := Lib.hid hoa
            have P6 := Lib.hid hp6
            have GA := Lib.hid (Nat.le_trans P5.out.osz hga)
            have GD := Lib.hid (fun x (hx : x = ga) e => (Nat.lt_irrefl x (Nat.lt_of_lt_of_le (P5.out.d.own.lt x e).2 (Nat.le_trans hga (Nat.le_of_eq hx.symm))) : False))
            clear hoa hga hp6
            go_wp2_with (first
              | (go_at_call 30; refine Calls.mono P6.out.mbytes ?_; rintro e w7 ⟨a7, c7, b7, rfl, hr7, hc7, hp7⟩; have R7 := Lib.hid hr7; have P7 := Lib.hid hp7; have OA7 := Lib.hid (OA.out.chg hc7 (fun _ _ h => h)); obtain ⟨b8, _, hr8⟩ := Rd.of_Own OA7.out; have R8 := Lib.hid hr8; have x7 := P7.out.xcell X2.out 1; clear hr7 hp7 hc7 hr8)
              | (go_at_call 10; refine Calls.mono (SameBytes_yes R8.out R7.out) ?_; rintro e w8 ⟨rfl, z8, rfl⟩)
              | (go_at_call 19; refine Calls.mono (Sure_any (P7.out.drewN z8).d) ?_; rintro e w' ⟨rfl, rfl⟩)
              | (go_at_call 31; refine Calls.mono (mSure (P7.out.drewN z8).md) ?_; rintro e w' ⟨rfl, rfl⟩)
              | (go_at_call 11; refine Calls.mono (LeftBytes_any ((P7.out.drewN z8).twin T2.out) (R.out.chg (P7.out.drewN z8).bk.chg (fun h => h))) ?_; rintro e w9 ⟨rfl, z9, rfl⟩))
            obtain ⟨XT, hXT⟩ := twin_ownZ ((P7.out.drewN (z8 + z9)).twin T2.out)
            refine Calls.mono (PS.keep (P7.out.drewN (z8 + z9)) (by have := LL.out; omega) (hXT.mono (by have := C.out.size; simp; omega)) (by omega) (fun x hx => by have h1 := (P7.out.op g (.inr rfl)).2.2; rw [blkZ_at hx]; exact h1) (fun x hx gg hgg e => by have h1 := (LT.out gg hgg x e).2; have h2 := blkZ_at hx; have h3 := G2.out.1; simp at h2 h3; omega)) ?_
            rintro e w10 ⟨⟨v10, rfl⟩, hp10, hc10⟩
            have P10 := Lib.hid hp10
            have OB : OwnZ (w7.drewN (z8 + z9)) w.heap.size 5 (some ⟨ga, 0, none⟩) _ _ _ := .inl (OA7.out.drewN (z8 + z9))
            have OA10 := Lib.hid (OB.chg hc10 (BS.not_ownZ OB (by decide) (by decide)))
            clear hp10 hc10 hXT OB
            go_wp2_with fail
            refine Calls.mono (PS.keep P10.out (by have := LL.out; simp; omega) OA10.out (by have h1 := P10.out.md.le; have h2 := P10.out.md.max; omega) (fun x hx => GD.out x (blkZ_at hx)) (fun x hx gg hgg e => by
              have h2 := blkZ_at hx
              have h4 := GA.out
              have h5 := SZ2.out
              have h6 := G2.out.2
              simp at h2 h5
              rcases List.mem_append.1 hgg with hgg | hgg
              · have h1 := (LT.out gg hgg x e).2; omega
              · rw [List.mem_singleton.1 hgg] at e
                have h3 := blkZ_at e
                simp at h3
                omega)) ?_
            rintro e w11 ⟨⟨v11, rfl⟩, hp11, _⟩
            have P11 := Lib.hid hp11
            clear hp11
            go_wp2_with fail
            go_roundw
            case rel => exact ⟨i + 1, _, _, _, _, _, _, _, _, _, _, by omega, rfl, rfl, by go_num, by have := LL.out; simp; omega, P11.out⟩
            case measure => simp [intOf]; omega
        · have q1 : (kd % 5 == 2) = false := by simp [hq.1]
          have q2 : (kd % 5 == 3) = false := by simp [hq.2.1]
          have q3 : (kd % 5 == 4) = false := by simp [hq.2.2]
          clear hq
          by_cases hf : m + n ≤ size
          · go_wp2_with fail
            go_region_held3 (fun w' => w'.cell? ⟨wr.heap.size, 1, none⟩ = some (.slice a n c)) (first | exact x1 | exact x3 | exact x5) (first
              | (go_at_call 15; refine Calls.mono (Append_yes (P2.out.drewN 1).d ((twin_rd T2.out R.out.1).drewN 1) (by rw [P2.out.md.len]; exact hf)) ?_; rintro e w3 ⟨rfl, a3, c3, hd3, hc3, hn3⟩; have P3 := Lib.hid ((P2.out.drewN 1).dset hd3 hc3 (fun x h => hn3.elim (fun e => .inl (h.trans e)) (fun e => .inr (by rw [e] at h; cases h; exact Nat.le_refl _)))); have x3 := P3.out.xcell X2.out 1; clear hd3 hc3 hn3)
              | (go_at_call 29; refine Calls.mono (mAppend_yes P3.out.md (R.out.chg P3.out.bk.chg (fun h => h)) hf) ?_; rintro e w5 ⟨rfl, a5, c5, hd5, hc5, hn5⟩; have P5 := Lib.hid (P3.out.mset hd5 hc5 (fun x h => .inr (hn5 x h))); have x5 := P5.out.xcell X2.out 1; clear hd5 hc5 hn5))
            try go_wp2_with fail
            refine Calls.mono P5.out.bytes ?_
            rintro e w6 ⟨ga, rfl, hoa, hga, hp6⟩
            have OA := Lib.hid hoa
            have P6 := Lib.hid hp6
            have GA := Lib.hid (Nat.le_trans P5.out.osz hga)
            have GD := Lib.hid (fun x (hx : x = ga) e => (Nat.lt_irrefl x (Nat.lt_of_lt_of_le (P5.out.d.own.lt x e).2 (Nat.le_trans hga (Nat.le_of_eq hx.symm))) : False))
            clear hoa hga hp6
            go_wp2_with (first
              | (go_at_call 30; refine Calls.mono P6.out.mbytes ?_; rintro e w7 ⟨a7, c7, b7, rfl, hr7, hc7, hp7⟩; have R7 := Lib.hid hr7; have P7 := Lib.hid hp7; have OA7 := Lib.hid (OA.out.chg hc7 (fun _ _ h => h)); obtain ⟨b8, _, hr8⟩ := Rd.of_Own OA7.out; have R8 := Lib.hid hr8; have x7 := P7.out.xcell X2.out 1; clear hr7 hp7 hc7 hr8)
              | (go_at_call 10; refine Calls.mono (SameBytes_yes R8.out R7.out) ?_; rintro e w8 ⟨rfl, z8, rfl⟩)
              | (go_at_call 19; refine Calls.mono (Sure_any (P7.out.drewN z8).d) ?_; rintro e w' ⟨rfl, rfl⟩)
              | (go_at_call 31; refine Calls.mono (mSure (P7.out.drewN z8).md) ?_; rintro e w' ⟨rfl, rfl⟩)
              | (go_at_call 11; refine Calls.mono (LeftBytes_any ((P7.out.drewN z8).twin T2.out) (R.out.chg (P7.out.drewN z8).bk.chg (fun h => h))) ?_; rintro e w9 ⟨rfl, z9, rfl⟩))
            obtain ⟨XT, hXT⟩ := twin_ownZ ((P7.out.drewN (z8 + z9)).twin T2.out)
            refine Calls.mono (PS.keep (P7.out.drewN (z8 + z9)) (by have := LL.out; omega) (hXT.mono (by have := C.out.size; simp; omega)) (by omega) (fun x hx => by have h1 := (P7.out.op g (.inr rfl)).2.2; rw [blkZ_at hx]; exact h1) (fun x hx gg hgg e => by have h1 := (LT.out gg hgg x e).2; have h2 := blkZ_at hx; have h3 := G2.out.1; simp at h2 h3; omega)) ?_
            rintro e w10 ⟨⟨v10, rfl⟩, hp10, hc10⟩
            have P10 := Lib.hid hp10
            have OB : OwnZ (w7.drewN (z8 + z9)) w.heap.size 5 (some ⟨ga, 0, none⟩) _ _ _ := .inl (OA7.out.drewN (z8 + z9))
            have OA10 := Lib.hid (OB.chg hc10 (BS.not_ownZ OB (by decide) (by decide)))
            clear hp10 hc10 hXT OB
            go_wp2_with fail
            refine Calls.mono (PS.keep P10.out (by have := LL.out; simp; omega) OA10.out (by have h1 := P10.out.md.le; have h2 := P10.out.md.max; omega) (fun x hx => GD.out x (blkZ_at hx)) (fun x hx gg hgg e => by
              have h2 := blkZ_at hx
              have h4 := GA.out
              have h5 := SZ2.out
              have h6 := G2.out.2
              simp at h2 h5
              rcases List.mem_append.1 hgg with hgg | hgg
              · have h1 := (LT.out gg hgg x e).2; omega
              · rw [List.mem_singleton.1 hgg] at e
                have h3 := blkZ_at e
                simp at h3
                omega)) ?_
            rintro e w11 ⟨⟨v11, rfl⟩, hp11, _⟩
            have P11 := Lib.hid hp11
            clear hp11
            go_wp2_with fail
            go_roundw
            case rel => exact ⟨i + 1, _, _, _, _, _, _, _, _, _, _, by omega, rfl, rfl, by go_num, by have := LL.out; simp; omega, P11.out⟩
            case measure => simp [intOf]; omega
          · have hf2 : size < m + n := by omega
            clear hf
            have hnm : n ≤ maxLen := by unfold maxLen; omega
            go_wp2_with fail
            go_region_held3 (fun w' => w'.cell? ⟨wr.heap.size, 1, none⟩ = some (.slice a n c)) (first | exact x1) (first
              | (go_at_call 15; refine Calls.mono (Append_no (P2.out.drewN 1).d (by rw [P2.out.md.len]; exact hf2) hnm) ?_; rintro e w3 ⟨rfl, z3, rfl⟩)
              | (go_at_call 29; refine Calls.mono (mAppend_no (P2.out.drewN (1 + z3)).md hf2 hnm) ?_; rintro e w5 ⟨rfl, z5, rfl⟩))
            have P5 := Lib.hid (P2.out.drewN (1 + z3 + z5))
            try go_wp2_with fail
            refine Calls.mono P5.out.bytes ?_
            rintro e w6 ⟨ga, rfl, hoa, hga, hp6⟩
            have OA := Lib.hid hoa
            have P6 := Lib.hid hp6
            have GA := Lib.hid (Nat.le_trans P5.out.osz hga)
            have GD := Lib.hid (fun x (hx : x = ga) e => (Nat.lt_irrefl x (Nat.lt_of_lt_of_le (P5.out.d.own.lt x e).2 (Nat.le_trans hga (Nat.le_of_eq hx.symm))) : False))
            clear hoa hga hp6
            go_wp2_with (first
              | (go_at_call 30; refine Calls.mono P6.out.mbytes ?_; rintro e w7 ⟨a7, c7, b7, rfl, hr7, hc7, hp7⟩; have R7 := Lib.hid hr7; have P7 := Lib.hid hp7; have OA7 := Lib.hid (OA.out.chg hc7 (fun _ _ h => h)); obtain ⟨b8, _, hr8⟩ := Rd.of_Own OA7.out; have R8 := Lib.hid hr8; have x7 := P7.out.xcell X2.out 1; clear hr7 hp7 hc7 hr8)
              | (go_at_call 10; refine Calls.mono (SameBytes_yes R8.out R7.out) ?_; rintro e w8 ⟨rfl, z8, rfl⟩)
              | (go_at_call 19; refine Calls.mono (Sure_any (P7.out.drewN z8).d) ?_; rintro e w' ⟨rfl, rfl⟩)
              | (go_at_call 31; refine Calls.mono (mSure (P7.out.drewN z8).md) ?_; rintro e w' ⟨rfl, rfl⟩)
              | (go_at_call 11; refine Calls.mono (LeftBytes_any ((P7.out.drewN z8).twin T2.out) (R.out.chg (P7.out.drewN z8).bk.chg (fun h => h))) ?_; rintro e w9 ⟨rfl, z9, rfl⟩))
            obtain ⟨XT, hXT⟩ := twin_ownZ ((P7.out.drewN (z8 + z9)).twin T2.out)
            refine Calls.mono (PS.keep (P7.out.drewN (z8 + z9)) (by have := LL.out; omega) (hXT.mono (by have := C.out.size; simp; omega)) (by omega) (fun x hx => by have h1 := (P7.out.op g (.inr rfl)).2.2; rw [blkZ_at hx]; exact h1) (fun x hx gg hgg e => by have h1 := (LT.out gg hgg x e).2; have h2 := blkZ_at hx; have h3 := G2.out.1; simp at h2 h3; omega)) ?_
            rintro e w10 ⟨⟨v10, rfl⟩, hp10, hc10⟩
            have P10 := Lib.hid hp10
            have OB : OwnZ (w7.drewN (z8 + z9)) w.heap.size 5 (some ⟨ga, 0, none⟩) _ _ _ := .inl (OA7.out.drewN (z8 + z9))
            have OA10 := Lib.hid (OB.chg hc10 (BS.not_ownZ OB (by decide) (by decide)))
            clear hp10 hc10 hXT OB
            go_wp2_with fail
            refine Calls.mono (PS.keep P10.out (by have := LL.out; simp; omega) OA10.out (by have h1 := P10.out.md.le; have h2 := P10.out.md.max; omega) (fun x hx => GD.out x (blkZ_at hx)) (fun x hx gg hgg e => by
              have h2 := blkZ_at hx
              have h4 := GA.out
              have h5 := SZ2.out
              have h6 := G2.out.2
              simp at h2 h5
              rcases List.mem_append.1 hgg with hgg | hgg
              · have h1 := (LT.out gg hgg x e).2; omega
              · rw [List.mem_singleton.1 hgg] at e
                have h3 := blkZ_at e
                simp at h3
                omega)) ?_
            rintro e w11 ⟨⟨v11, rfl⟩, hp11, _⟩
            have P11 := Lib.hid hp11
            clear hp11
            go_wp2_with fail
            go_roundw
            case rel => exact ⟨i + 1, _, _, _, _, _, _, _, _, _, _, by omega, rfl, rfl, by go_num, by have := LL.out; simp; omega, P11.out⟩
            case measure => simp [intOf]; omega
      · obtain rfl : i = len := by omega
        go_wp2_with (first
          | (go_at_call 13; refine Calls.mono (Apart_book P.out.bk (by have := LL.out; omega)) ?_; rintro e w9 ⟨rfl, hc9⟩; have C9 := Lib.hid hc9; clear hc9)
          | (go_at_call 21; refine Calls.mono (lives19_any _) ?_; rintro e w10 ⟨rfl, hc10⟩; have C10 := Lib.hid (C9.out.trans hc10); clear hc10))
        go_ret
        exact ⟨rfl, C10.out.belowN⟩
end Go.Proofs.YtbmopcmhokpchaaGreatDoor
