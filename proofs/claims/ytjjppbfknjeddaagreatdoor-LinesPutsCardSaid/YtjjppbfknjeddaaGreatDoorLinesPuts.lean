/- LinesPuts, walked. -/
import Derived.Test.YtjjppbfknjeddaaGreatDoorPutsPS
import Derived.Test.YtjjppbfknjeddaaGreatDoorPutsSizes
import Derived.Test.YtjjppbfknjeddaaGreatDoorRules
import Derived.Test.YtjjppbfknjeddaaGreatDoorLinSame
import Derived.Deep.DeepCutAuto
import Derived.Deep.CutBlock
namespace Go.Proofs.YtjjppbfknjeddaaGreatDoor
open Go.RowKit Go.Shelf
set_option linter.unusedVariables false
set_option linter.unusedSimpArgs false
attribute [local go_sem ↓] Go.wp_at_zero Go.wp_at_succ
theorem Tryz.size_Book : (Tryz.prog.info? 41).map (·.size) = some 13 := by kernel_rfl
/-- An empty book stored into a block that was made for it. -/
theorem newBook (w : World) : ∃ W, CanStore Tryz.prog 41 (w.alloc (.cells #[.int .i64 0, .slice none 0 0, .slice none 0 0, .slice none 0 0, .slice none 0 0, .slice none 0 0, .slice none 0 0, .slice none 0 0, .slice none 0 0, .slice none 0 0, .slice none 0 0, .slice none 0 0, .slice none 0 0] 41)) (.pointer (some ⟨w.heap.size, 0, none⟩)) (.agg #[.int .i64 0, .slice none 0 0, .slice none 0 0, .slice none 0 0, .slice none 0 0, .slice none 0 0, .slice none 0 0, .slice none 0 0, .slice none 0 0, .slice none 0 0, .slice none 0 0, .slice none 0 0, .slice none 0 0]) ∧
    storedAt (w.alloc (.cells #[.int .i64 0, .slice none 0 0, .slice none 0 0, .slice none 0 0, .slice none 0 0, .slice none 0 0, .slice none 0 0, .slice none 0 0, .slice none 0 0, .slice none 0 0, .slice none 0 0, .slice none 0 0, .slice none 0 0] 41)) (.pointer (some ⟨w.heap.size, 0, none⟩)) (.agg #[.int .i64 0, .slice none 0 0, .slice none 0 0, .slice none 0 0, .slice none 0 0, .slice none 0 0, .slice none 0 0, .slice none 0 0, .slice none 0 0, .slice none 0 0, .slice none 0 0, .slice none 0 0, .slice none 0 0]) = W ∧
    W.heap[w.heap.size]? = some (.cells (bookRow 0 (.slice none 0 0) (.slice none 0 0) (.slice none 0 0)) 41 (0, 0)) ∧ Chg Non w W := by
  refine ⟨_, CanStore.mk (heap_alloc_new w _) Tryz.size_Book rfl (by simp [Value.oneCell']), rfl, ?_, ((Chg.refl _ _).alloc _).setRow (.inl (Nat.le_refl _)) _⟩
  exact setRow_heap _ _ _ _ _ _ (heap_alloc_new w _)
theorem txts_tv (L : List (List UInt8 × Bool)) : txts L = (L.map (·.1)).map tv := by simp [txts, tv]
theorem bols_b (L : List (List UInt8 × Bool)) : bols L = (L.map (·.2)).map Value.bool := by simp [bols]
theorem SameTexts_yes {w : World} {b1 b2 : Nat} {a1 a2 : Option Addr} {n1 c1 n2 c2 : Nat} {L : List (List UInt8 × Bool)} (h1 : RdV w b1 a1 n1 c1 (txts L)) (h2 : RdV w b2 a2 n2 c2 (txts L)) :
    Calls Tryz.prog 10 #[.slice a1 n1 c1, .slice a2 n2 c2] w fun e w' => e = .returned (.bool true) ∧ ∃ q, w' = w.drewN q := by
  rw [txts_tv] at h1 h2
  refine Calls.mono (SameTexts_any h1 h2) ?_
  rintro e w' ⟨rfl, h⟩
  exact ⟨by simp, h⟩
theorem SameBools_yes {w : World} {b1 b2 : Nat} {a1 a2 : Option Addr} {n1 c1 n2 c2 : Nat} {L : List (List UInt8 × Bool)} (h1 : RdV w b1 a1 n1 c1 (bols L)) (h2 : RdV w b2 a2 n2 c2 (bols L)) :
    Calls Tryz.prog 11 #[.slice a1 n1 c1, .slice a2 n2 c2] w fun e w' => e = .returned (.bool true) ∧ ∃ q, w' = w.drewN q := by
  rw [bols_b] at h1 h2
  refine Calls.mono (SameBools_any h1 h2) ?_
  rintro e w' ⟨rfl, h⟩
  exact ⟨by simp, h⟩
theorem RdrAt.mono {w : World} {B B' r p : Nat} {ao : Option Addr} {cap : Nat} {s : List UInt8} (h : RdrAt w B r p ao cap s) (hB : B' ≤ B) : RdrAt w B' r p ao cap s := ⟨h.hr, ⟨h.st.hp, h.st.own.mono hB, h.st.le, Nat.le_trans hB h.st.base⟩, h.rp, Nat.le_trans hB h.br⟩
theorem MRd.mono {w : World} {B B' q : Nat} {am : Option Addr} {cm : Nat} {R : List UInt8} (h : MRd w B q am cm R) (hB : B' ≤ B) : MRd w B' q am cm R := ⟨h.hp, h.own.mono hB, Nat.le_trans hB h.base⟩
theorem twin_rd {w : World} {B g n cap : Nat} {bs : List UInt8} (h : IsTwin w B g n cap bs) (hn : bs.length = n) : Rd w g (some ⟨g, 0, none⟩) n cap bs := by
  obtain ⟨b, hb, hr⟩ := Rd.of_Own h
  have hle := Own.le h
  have hp : 0 < cap := by omega
  have e := hb hp
  simp [blk] at e
  subst e
  obtain ⟨h1, h2, h3, h4, h5⟩ := hr
  obtain ⟨off, ho, hc⟩ := h5 hp
  refine ⟨hn, by omega, h3, h4, fun _ => ⟨off, ho, fun i hi => ?_⟩⟩
  rw [hc i (by omega)]
  simp [List.getD, List.getElem?_append_left (show i < bs.length by omega)]
attribute [local go_sem ↓] run_load_row_op run_store_row_op in
set_option maxRecDepth 40000 in
set_option maxHeartbeats 8000000 in
theorem LinesPuts_any {w : World} {ao : Option Addr} {len cap : Nat} {f : Nat → List UInt8} (h : BsB w ao len cap f) (hw : ∀ i, i < len → (f i).length ≤ reachBytes) :
    Calls Tryz.prog 3 #[.slice ao len cap] w fun e w' => e = .returned (.bool true) ∧ Below w.heap.size w w' := by
  have HB := Lib.hid h
  have HW := Lib.hid hw
  have hlc := h.1
  have hm := h.2.1
  unfold maxLen at hm
  have H := Lib.hid h.2.2
  clear h hw
  go_enter Tryz.func3, Tryz.ntmps3
  go_wp2_with fail
  refine Calls.mono (sizes_any HB.out HW.out) ?_
  rintro e w1 ⟨⟨zz, rfl, hz⟩, q1, rfl⟩
  rcases hz with hz | ⟨hz, hlen, hf⟩
  · have h1 : (300000 : Int) < (zz : Int) := by omega
    clear hz
    go_wp2_with fail
    go_ret
    exact ⟨rfl, ((Chg.refl Non w).drewN q1).belowN⟩
  have h1 : ¬ (300000 : Int) < (zz : Int) := by omega
  have HF := Lib.hid hf
  have C1 : Hid (Chg Non w (w.drewN q1)) := Lib.hid ((Chg.refl _ _).drewN _)
  clear hz hf
  generalize w.drewN q1 = w1 at C1 ⊢
  go_wp2_with fail
  refine Calls.mono (New_any w1) ?_
  rintro e w2 ⟨rfl, hd2, hc2⟩
  have D2 := Lib.hid hd2; have C2 := Lib.hid (C1.out.trans hc2); have Z2 := Lib.hid hc2.size
  clear hd2 hc2
  go_wp2_with fail
  refine Calls.mono (refNew_any w2) ?_
  rintro e w3 ⟨rfl, hd3, hc3⟩
  have D3 := Lib.hid (D2.out.keep hc3); have M3 := Lib.hid hd3; have C3 := Lib.hid (C2.out.trans hc3)
  clear hd3 hc3
  have PB : Hid (PS w (w3.alloc (.cells (bookRow 0 (.slice none 0 0) (.slice none 0 0) (.slice none 0 0)) 41 (0, 0))) w3.heap.size w1.heap.size.succ w1.heap.size none 0 [] w2.heap.size none 0 [] [] []) :=
    Lib.hid ⟨(D3.out.mono C1.out.size).keep ((Chg.refl _ _).alloc _), (M3.out.mono C2.out.size).keep ((Chg.refl _ _).alloc _), fun x h => by simp [blk] at h, BookB.start2 (heap_alloc_new w3 _) (C3.out.alloc _) C3.out.size⟩
  clear D2 D3 M3 C1 C2 Z2
  go_wp2_with fail
  obtain ⟨W0, hW0⟩ : ∃ W0, W0 = w3.alloc (.cells #[.int .i64 0, .slice none 0 0, .slice none 0 0, .slice none 0 0, .slice none 0 0, .slice none 0 0, .slice none 0 0, .slice none 0 0, .slice none 0 0, .slice none 0 0, .slice none 0 0, .slice none 0 0, .slice none 0 0] 41) := ⟨_, rfl⟩
  have PB2 : Hid (PS w W0 w3.heap.size (w1.heap.size + 1) w1.heap.size none 0 [] w2.heap.size none 0 [] [] []) := by rw [hW0]; exact PB
  rw [← hW0]
  clear hW0 PB C3
  generalize w3.heap.size = k at PB2 ⊢
  generalize w2.heap.size = q at PB2 ⊢
  generalize hrr : w1.heap.size + 1 = r at PB2 ⊢
  generalize w1.heap.size = p at PB2
  clear hrr
  go_loopw [6] (fun s6 wr => ∃ (i : Nat) (ao' : Option Addr) (cp : Nat) (am : Option Addr) (cm : Nat) (R : List UInt8) (L M : List Held), i ≤ len ∧ s6 = .int .i64 (i : Int) ∧ L.length ≤ i ∧ M.length ≤ i ∧ L.length ≤ 20 ∧ M.length ≤ 20 ∧ R.length ≤ i * 300000 ∧ PS w wr k r p ao' cp (R.take 70002) q am cm R L M) (fun i _ => len - (intOf i).toNat)
  case atStart => exact ⟨0, none, 0, none, 0, [], [], [], by omega, rfl, by simp, by simp, by simp, by simp, by simp, PB2.out⟩
  case round =>
    clear PB2
    obtain ⟨i, ad, cp, am, cm, R, L, M, hi, rfl, hL1, hM1, hL2, hM2, hRl, hP⟩ := hrel
    have P := Lib.hid hP
    clear hP
    by_cases hlt : i < len
    · obtain ⟨b, off, rfl, hb, hA⟩ := H.out (by omega)
      obtain ⟨a, n, c, bb, g0, hr, hbb⟩ := hA i hlt
      have hn : n ≤ 300000 := by have := HF.out i hlt; rw [hr.1] at this; exact this
      generalize f i = bs at hr
      have gw : ∀ w', Chg Non w w' → w'.cell? ⟨b, off + i, none⟩ = some (.slice a n c) := fun w' hc => (hc.cell (p := ⟨b, off + i, none⟩) hb (fun h => h)).trans g0
      have GW := Lib.hid gw
      have gr := gw wr P.out.bk.chg
      have RB := Lib.hid hr
      have BB := Lib.hid hbb
      have LS := Lib.hid P.out.lts
      clear hA g0 hr hbb gw
      have i0' : (0 : Int) ≤ (i : Int) := by omega
      have i1' : (i : Int) < (len : Int) := by omega
      go_wp2_with fail
      refine Calls.mono (TwinBytes_any (RB.out.chg P.out.bk.chg (fun h => h)) (by omega)) ?_
      rintro e w2 ⟨g, tc, rfl, ht, hc2⟩
      have T2 := Lib.hid ht
      have G2 := Lib.hid (Own.lt ht g rfl)
      have P2 := Lib.hid (P.out.non hc2)
      have Z2 := Lib.hid hc2.size
      clear ht hc2 gr
      obtain ⟨Ls, hLs⟩ : ∃ Ls, refPutB R bs = Ls := ⟨_, rfl⟩
      obtain ⟨R', hR'⟩ : ∃ R', refRest R bs = R' := ⟨_, rfl⟩
      have HL := Lib.hid hLs; have HR := Lib.hid hR'
      have hRl' : R'.length ≤ (i + 1) * 300000 := by
        have := refRest_len bs R
        rw [hR', RB.out.1] at this
        omega
      clear hLs hR'
      go_wp2_with fail
      refine Calls.mono (Put_rdr P2.out.r (twin_rd T2.out RB.out.1) (fun _ => ⟨fun e => by have h1 := P.out.r.st.lt; have h2 := G2.out.1; omega, fun e => by have h1 := (P.out.r.st.own.lt g e).2; have h2 := G2.out.1; omega⟩) (by omega) ((putB_take bs R).1.trans HL.out) ((putB_take bs R).2.trans (by rw [HR.out]))) ?_
      rintro e w3 ⟨la, lc, oa, oc, m, ao', cp', rfl, hE⟩
      have P3 := Lib.hid (P2.out.put hE.rdr hE.chg hE.old)
      have A3 := Lib.hid hE.ot; have B3 := Lib.hid hE.ob; have ML := Lib.hid hE.ml
      have T3 : Hid (IsTwin w3 wr.heap.size g n tc bs) := Lib.hid (Own.chg T2.out hE.chg (fun y hy e => by
        simp [blk] at hy
        subst hy
        have h2 := G2.out.1
        rcases e with e | e
        · have h1 := P.out.r.st.lt; omega
        · have h1 := (P.out.r.st.own.lt y e).2; omega))
      have g3 := GW.out w3 P3.out.bk.chg
      clear hE
      go_wp2_with fail
      refine Calls.mono (refPut_any P3.out.m (RB.out.chg P3.out.bk.chg (fun h => h)) (fun hp => by
        have h1 := BB.out hp
        have h2 := P3.out.bk.chg.size
        refine ⟨by omega, fun e => ?_, fun e => ?_⟩
        · have := P3.out.m.base; omega
        · have := (P3.out.m.own.lt bb e).1; omega) (by omega) (by omega) HL.out HR.out ML.out) ?_
      rintro e w4 ⟨la2, lc2, oa2, oc2, am', cm', rfl, hM⟩
      have P4 := Lib.hid (P3.out.mput hM.st hM.chg hM.old)
      have A4 := Lib.hid (A3.out.chg hM.chg (fun y hy e => e.elim (own_row A3.out P3.out.m.hp (by decide) y hy) (own_apart A3.out P3.out.m.own (by decide) y hy)))
      have B4 := Lib.hid (B3.out.chg hM.chg (fun y hy e => e.elim (own_row B3.out P3.out.m.hp (by decide) y hy) (own_apart B3.out P3.out.m.own (by decide) y hy)))
      have T4 : Hid (IsTwin w4 wr.heap.size g n tc bs) := Lib.hid (Own.chg T3.out hM.chg (fun y hy e => by
        simp [blk] at hy
        subst hy
        have h2 := G2.out.1
        rcases e with e | e
        · have h1 := P.out.m.lt; omega
        · have h1 := (P.out.m.own.lt y e).2; omega))
      obtain ⟨b1, _, r1⟩ := RdV.of_Own A4.out
      obtain ⟨b2, _, r2⟩ := RdV.of_Own hM.ot
      obtain ⟨b3, _, r3⟩ := RdV.of_Own B4.out
      obtain ⟨b4, _, r4⟩ := RdV.of_Own hM.ob
      have R1 := Lib.hid r1; have R2 := Lib.hid r2; have R3 := Lib.hid r3; have R4 := Lib.hid r4
      have g4 := GW.out w4 P4.out.bk.chg
      obtain ⟨K, hK⟩ : ∃ K, min R'.length 70002 = K := ⟨_, rfl⟩
      have KK := Lib.hid hK
      have KL : Hid ((((R'.take 70002).length : Nat) : Int) = (K : Int)) := Lib.hid (by rw [List.length_take, ← hK, Nat.min_comm])
      clear hM r1 r2 r3 r4 g3 hK A3 B3 T3
      by_cases hk : len ≤ 20 ∧ m ≤ 50
      · obtain ⟨hk1, hk2⟩ := hk
        have k1 : (len : Int) ≤ 20 := by omega
        have k2 : (m : Int) ≤ 50 := by omega
        go_wp2_with (first
          | (go_at_call 10; refine Calls.mono (SameTexts_yes R1.out R2.out) ?_; rintro e w5 ⟨rfl, z1, rfl⟩)
          | (go_at_call 11; refine Calls.mono (SameBools_yes (R3.out.drewN z1) (R4.out.drewN z1)) ?_; rintro e w5 ⟨rfl, z2, rfl⟩)
          | (go_at_call 12; refine Calls.mono (Left_of (P4.out.drewN (z1 + z2)).r KL.out) ?_; rintro e w5 ⟨rfl, rfl⟩)
          | (go_at_call 13; refine Calls.mono (refLeft_any (P4.out.drewN (z1 + z2)).m KK.out) ?_; rintro e w5 ⟨rfl, z3, rfl⟩)
          | (go_at_call 14; refine Calls.mono (LeftBytes_any (Own.drewN T4.out (z1 + z2 + z3)) ((RB.out.chg P4.out.bk.chg (fun h => h)).drewN (z1 + z2 + z3))) ?_; rintro e w5 ⟨rfl, z4, rfl⟩))
        obtain ⟨w5, hw5⟩ : ∃ w5, w5 = w4.drewN (z1 + z2 + z3 + z4) := ⟨_, rfl⟩
        have P5 : Hid (PS w w5 k r p ao' cp' (R'.take 70002) q am' cm' R' L M) := Lib.hid (by rw [hw5]; exact P4.out.drewN _)
        have OA : Hid (OwnZ w5 w2.heap.size 9 la m lc (txts Ls)) := Lib.hid (by rw [hw5]; exact .inl (Own.drewN A4.out _))
        have OB : Hid (OwnZ w5 w2.heap.size 4 oa m oc (bols Ls)) := Lib.hid (by rw [hw5]; exact .inl (Own.drewN B4.out _))
        have W2 := Lib.hid P2.out.bk.chg.size
        rw [← hw5]
        clear hw5 P4 A4 B4 T4 R1 R2 R3 R4 KK KL
        refine Calls.mono (Texts_book P5.out.bk (by omega) (OA.out.mono W2.out) (by omega) (fun y hy gg hgg e => by
          have h1 := LS.out gg (List.mem_append_right _ hgg) y e
          have h2 := (OA.out.lt y hy).1
          have h3 := Z2.out
          omega)) ?_
        rintro e w6 ⟨⟨v6, rfl⟩, hb6, hc6⟩
        have P6 := Lib.hid (P5.out.book hb6 hc6)
        have OB6 := Lib.hid (OB.out.chg hc6 (BS.not_ownZ OB.out (by decide) (by decide) (by decide)))
        clear hb6 hc6 OA
        go_wp2_with fail
        refine Calls.mono (Bools_book P6.out.bk (by simp; omega) (OB6.out.mono W2.out) (by omega) (fun y hy gg hgg e => by
          have h1 := LS.out gg (List.mem_append_left _ hgg) y e
          have h2 := (OB6.out.lt y hy).1
          have h3 := Z2.out
          omega)) ?_
        rintro e w7 ⟨⟨v7, rfl⟩, hb7, hc7⟩
        have P7 := Lib.hid (P6.out.book hb7 hc7)
        clear hb7 hc7
        go_wp2_with fail
        go_roundw
        case rel => exact ⟨i + 1, ao', cp', am', cm', R', _, _, by omega, by go_num, by simp; omega, by simp; omega, by simp; omega, by simp; omega, hRl', P7.out⟩
        case measure => simp [intOf]; omega
      · have hcase : ¬ (len : Int) ≤ 20 ∨ ((len : Int) ≤ 20 ∧ ¬ (m : Int) ≤ 50) := by omega
        clear hk
        rcases hcase with k1 | ⟨k1, k2⟩
        all_goals
          go_wp2_with (first
            | (go_at_call 10; refine Calls.mono (SameTexts_yes R1.out R2.out) ?_; rintro e w5 ⟨rfl, z1, rfl⟩)
            | (go_at_call 11; refine Calls.mono (SameBools_yes (R3.out.drewN z1) (R4.out.drewN z1)) ?_; rintro e w5 ⟨rfl, z2, rfl⟩)
            | (go_at_call 12; refine Calls.mono (Left_of (P4.out.drewN (z1 + z2)).r KL.out) ?_; rintro e w5 ⟨rfl, rfl⟩)
            | (go_at_call 13; refine Calls.mono (refLeft_any (P4.out.drewN (z1 + z2)).m KK.out) ?_; rintro e w5 ⟨rfl, z3, rfl⟩)
            | (go_at_call 14; refine Calls.mono (LeftBytes_any (Own.drewN T4.out (z1 + z2 + z3)) ((RB.out.chg P4.out.bk.chg (fun h => h)).drewN (z1 + z2 + z3))) ?_; rintro e w5 ⟨rfl, z4, rfl⟩))
          go_roundw
          case rel => exact ⟨i + 1, ao', cp', am', cm', R', L, M, by omega, by go_num, by omega, by omega, by omega, by omega, hRl', P4.out.drewN _⟩
          case measure => simp [intOf]; omega
    · obtain rfl : i = len := by omega
      go_wp2_with fail
      refine Calls.mono (Put_nil _) ?_
      rintro e w5 ⟨rfl, rfl⟩
      obtain ⟨w6, hw6⟩ : ∃ w6, w6 = wr.alloc (.cells #[.pointer none] 57) := ⟨_, rfl⟩
      have Z6 : Hid (w6.heap[wr.heap.size]? = some (.cells #[.pointer none] 57 (0, 0))) := Lib.hid (by rw [hw6]; exact heap_alloc_new _ _)
      have P6 := Lib.hid (P.out.non (w' := w6) (by rw [hw6]; exact (Chg.refl _ _).alloc _))
      rw [← hw6]
      clear hw6
      go_wp2_with fail
      refine Calls.mono (Put_zero Z6.out) ?_
      rintro e w5 ⟨rfl, rfl⟩
      go_wp2_with fail
      refine Calls.mono (Apart_book P6.out.bk (by omega)) ?_
      rintro e w8 ⟨rfl, hc8, hz8⟩
      have C8 := Lib.hid hc8
      have Z8 := Lib.hid (hz8 _ _ Z6.out)
      clear hc8 hz8
      go_wp2_with fail
      refine Calls.mono (Left_nil _) ?_
      rintro e w9 ⟨rfl, rfl⟩
      go_wp2_with fail
      refine Calls.mono (Left_zero Z8.out) ?_
      rintro e w9 ⟨rfl, rfl⟩
      go_wp2_with fail
      go_ret
      exact ⟨rfl, C8.out.belowN⟩
end Go.Proofs.YtjjppbfknjeddaaGreatDoor
