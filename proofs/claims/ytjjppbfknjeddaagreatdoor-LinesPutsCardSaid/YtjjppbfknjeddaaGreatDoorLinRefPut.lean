/- The document's reader: New, Left, Put; the reader's answers where there is none. Walked. -/
import Derived.Test.YtjjppbfknjeddaaGreatDoorLinRefMay
namespace Go.Proofs.YtjjppbfknjeddaaGreatDoor
open Go.RowKit Go.Shelf
set_option linter.unusedVariables false
set_option linter.unusedSimpArgs false
attribute [local go_sem ↓] Go.wp_at_zero Go.wp_at_succ
theorem refNew_any (w : World) : Calls Tryz.prog 6 #[] w fun e w' => e = .returned (.pointer (some ⟨w.heap.size, 0, none⟩)) ∧ MRd w' w.heap.size w.heap.size none 0 [] ∧ Chg Non w w' := by
  go_enter Tryz.func6, Tryz.ntmps6
  go_wp2
  go_ret
  exact ⟨rfl, ⟨heap_alloc_new w _, Own.nil _ _ _ _, Nat.le_refl _⟩, (Chg.refl _ _).alloc _⟩
theorem refLeft_any {w : World} {B q : Nat} {am : Option Addr} {cm : Nat} {R : List UInt8} (h : MRd w B q am cm R) {k : Nat} (hk : min R.length 70002 = k) :
    Calls Tryz.prog 13 #[.pointer (some ⟨q, 0, none⟩)] w fun e w' => e = .returned (.int .i64 (k : Int)) ∧ ∃ z, w' = w.drewN z := by
  have c0 := h.c0
  have hm : min ((R.length : Nat) : Int) 70002 = (k : Int) := by rw [← hk]; omega
  generalize R.length = m at c0 hm
  clear h hk
  go_enter Tryz.func13, Tryz.ntmps13
  go_wp2
  go_ret
  exact ⟨rfl, 0, rfl⟩
theorem Put_nil (w : World) : Calls Tryz.prog 8 #[.pointer none, .slice none 0 0] w fun e w' => e = .returned (.tuple #[.slice none 0 0, .slice none 0 0, .int .i64 2]) ∧ w' = w := by
  go_enter Tryz.func8, Tryz.ntmps8
  go_wp2_with fail
  go_step3
  go_wp2_with fail
  rw [Exit.noGoto_ret]
  go_ret3
  exact ⟨rfl, rfl⟩
theorem Put_zero {w : World} {r : Nat} (h : w.heap[r]? = some (.cells #[.pointer none] 57 (0, 0))) : Calls Tryz.prog 8 #[.pointer (some ⟨r, 0, none⟩), .slice none 0 0] w fun e w' => e = .returned (.tuple #[.slice none 0 0, .slice none 0 0, .int .i64 2]) ∧ w' = w := by
  have c0 : w.cell? ⟨r, 0, none⟩ = some (.pointer none) := by rw [cell_of_row _ r 0 _ _ _ h]; rfl
  clear h
  go_enter Tryz.func8, Tryz.ntmps8
  go_wp2_with fail
  go_step3
  go_wp2_with fail
  rw [Exit.noGoto_ret]
  go_ret3
  exact ⟨rfl, rfl⟩
theorem Left_nil (w : World) : Calls Tryz.prog 12 #[.pointer none] w fun e w' => e = .returned (.int .i64 0) ∧ w' = w := by
  go_enter Tryz.func12, Tryz.ntmps12
  go_wp2
  go_ret
  exact ⟨rfl, rfl⟩
theorem Left_zero {w : World} {r : Nat} (h : w.heap[r]? = some (.cells #[.pointer none] 57 (0, 0))) : Calls Tryz.prog 12 #[.pointer (some ⟨r, 0, none⟩)] w fun e w' => e = .returned (.int .i64 0) ∧ w' = w := by
  have c0 : w.cell? ⟨r, 0, none⟩ = some (.pointer none) := by rw [cell_of_row _ r 0 _ _ _ h]; rfl
  clear h
  go_enter Tryz.func12, Tryz.ntmps12
  go_wp2
  go_ret
  exact ⟨rfl, rfl⟩
theorem Tryz.info_by : (Tryz.prog.info? 5).map (fun i => (i.zero, i.size, i.bytes)) = some (some (.int .u8 0), 1, 1) := by kernel_rfl
set_option maxRecDepth 40000 in
set_option maxHeartbeats 8000000 in
theorem refPut_any {w : World} {B q b2 : Nat} {am0 : Option Addr} {cm0 : Nat} {R0 : List UInt8} (h : MRd w B q am0 cm0 R0) {a1 : Option Addr} {n c1 : Nat} {bs : List UInt8} (hr : Rd w b2 a1 n c1 bs)
    (hb2 : 0 < n → b2 < w.heap.size ∧ b2 ≠ q ∧ some b2 ≠ blk am0) (hn : n ≤ 1000000) (hR : R0.length ≤ 1000000000000) {L : List (List UInt8 × Bool)} {R' : List UInt8} (hL : refPutB R0 bs = L) (hR' : refRest R0 bs = R') {m : Nat} (hm : L.length = m) :
    Calls Tryz.prog 9 #[.pointer (some ⟨q, 0, none⟩), .slice a1 n c1] w fun e w' => ∃ la lc oa oc am cm, e = .returned (.tuple #[.slice la m lc, .slice oa m oc, .int .i64 0]) ∧ MPut w w' B q b2 am0 a1 n c1 bs la lc m (txts L) oa oc m (bols L) am cm R' := by
  have LN := Lib.hid hr.1
  have P0 : Hid (MPut w w B q b2 am0 a1 n c1 bs none 0 0 [] none 0 0 [] am0 cm0 R0) := Lib.hid ⟨hr, Own.nil _ _ _ _, Own.nil _ _ _ _, h, Chg.refl _ _, fun k hk => .inl hk, h.lt, hb2⟩
  obtain ⟨r0, hr0⟩ : ∃ r0, R0.length = r0 := ⟨_, rfl⟩
  rw [hr0] at hR
  have HR0 := Lib.hid hr0; have HL := Lib.hid hL; have HR' := Lib.hid hR'; have HM := Lib.hid hm
  clear h hr hb2 hr0 hL hR' hm
  obtain ⟨i0, hi1, hi2, hi3, hi4⟩ := info_parts Tryz.info_by
  have Hi := Lib.hid hi1; have Hz0 := Lib.hid hi2; have Hz1 := Lib.hid hi3; have Hz2 := Lib.hid hi4
  clear hi1 hi2 hi3 hi4
  obtain ⟨i1, hi1, hi2, hi3, hi4⟩ := info_parts Tryz.info_str
  have Hs1 := Lib.hid hi1; have Hs2 := Lib.hid hi2; have Hs3 := Lib.hid hi3; have Hs4 := Lib.hid hi4
  clear hi1 hi2 hi3 hi4
  obtain ⟨i2, hi1, hi2, hi3, hi4⟩ := info_parts Tryz.info_bool
  have Hb1 := Lib.hid hi1; have Hb2 := Lib.hid hi2; have Hb3 := Lib.hid hi3; have Hb4 := Lib.hid hi4
  clear hi1 hi2 hi3 hi4
  go_enter Tryz.func9, Tryz.ntmps9
  go_wp2_with fail
  go_loopw [7, 8, 9] (fun v7 v8 v9 wr => ∃ (i m rl : Nat) (la : Option Addr) (lc : Nat) (oa : Option Addr) (oc : Nat) (am : Option Addr) (cm : Nat) (R : List UInt8), i ≤ n ∧ v7 = .slice la m lc ∧ v8 = .slice oa m oc ∧ v9 = .int .i64 (i : Int) ∧ m ≤ i ∧ rl ≤ r0 + i ∧ R.length = rl ∧ (refPutB R0 (bs.take i)).length = m ∧ refRest R0 (bs.take i) = R ∧ MPut w wr B q b2 am0 a1 n c1 bs la lc m (txts (refPutB R0 (bs.take i))) oa oc m (bols (refPutB R0 (bs.take i))) am cm R) (fun _ _ i _ => n - (intOf i).toNat)
  case atStart => exact ⟨0, 0, r0, none, 0, none, 0, am0, cm0, R0, by omega, rfl, rfl, rfl, by omega, by omega, HR0.out, by simp [refPutB], by simp [refRest], by simpa [refPutB, txts, bols] using P0.out⟩
  case round =>
    obtain ⟨i, m2, rl, la, lc, oa, oc, am, cm, R, hi, rfl, rfl, rfl, hmi, hrl, hRl, hml, hRR, hM⟩ := hrel
    have M := Lib.hid hM; have RL := Lib.hid hRl; have ML := Lib.hid hml; have RR := Lib.hid hRR
    have c0 := hM.st.c0
    rw [hRl] at c0
    have f0 := hM.st.fr 0
    clear hM hRl hml hRR P0
    by_cases hlt : i < n
    · obtain ⟨o1, ho1, hc1⟩ := M.out.rd.2.2.2.2 (by have := M.out.rd.2.1; omega)
      have d1 := hc1 i hlt
      subst ho1
      have HS1 := Lib.hid (refPutB_snoc (bs.take i) R0 (bs.getD i 0))
      have HT : Hid (bs.take (i + 1) = bs.take i ++ [bs.getD i 0]) := Lib.hid (by rw [List.take_succ_eq_append_getElem (by have := LN.out; omega)]; congr 2; simp [List.getD, show i < bs.length by have := LN.out; omega])
      obtain ⟨c, hc⟩ : ∃ c, bs.getD i 0 = c := ⟨_, rfl⟩
      rw [hc] at HS1 HT d1
      unfold bv at d1
      have i0' : (0 : Int) ≤ (i : Int) := by omega
      have i1' : (i : Int) < (n : Int) := by omega
      clear hc1 hc
      by_cases h10 : c = 10
      · have hne : ((c.toNat : Int) != 10) = false := by rw [h10]; rfl
        have YK := Lib.hid h10; clear h10
        have M1 := Lib.hid M.out.none_
        have OW : Own wr B 5 1 am rl cm (R.map bv) := by have := M.out.st.own; rw [RL.out] at this; exact this
        obtain ⟨bl, hbl, hrd⟩ := Rd.of_Own OW
        have nbl : 0 < cm → bl ≠ q := fun hp => M.out.st.apart bl (hbl hp)
        have hrd2 : Rd (wr.setCell ⟨q, 0, none⟩ (.slice none 0 0)) bl am rl cm R := hrd.same (fun hp => heap_setCell_other wr ⟨q, 0, none⟩ bl _ (nbl (by have := hrd.2.1; omega)))
        obtain ⟨X, hX⟩ : ∃ X, trimCR R = X := ⟨_, rfl⟩
        have HX := Lib.hid hX
        by_cases hz : rl = 0
        · subst hz
          have e : X = R := by
            have h1 : R = [] := List.eq_nil_of_length_eq_zero RL.out
            rw [← hX, h1]; rfl
          subst e
          have XR := Lib.hid hrd2
          clear OW hbl hrd nbl hrd2 hX
          go_wp2_with fail
          obtain ⟨W1, hW1⟩ : ∃ W1, W1 = wr.setCell ⟨q, 0, none⟩ (.slice none 0 0) := ⟨_, rfl⟩
          rw [← hW1] at M1 XR ⊢
          clear hW1
          cases hv : mayB X with
          | true =>
            have LB : Hid (refLine X = (X, false)) := Lib.hid (by unfold refLine; rw [HX.out, if_pos hv])
            refine Calls.mono (may_any XR.out hv) ?_
            rintro e w' ⟨rfl, z, rfl⟩
            clear hv
            have M2 := Lib.hid (M1.out.quiet ((Chg.refl _ _).drewN z))
            have XR2 := Lib.hid (XR.out.drewN z)
            have hcv := XR2.out.string (P := Tryz.prog) Tryz.underlying42 Tryz.underlying5 Tryz.underlying9
            clear M1 XR
            generalize W1.drewN z = W2 at M2 XR2 hcv ⊢
            go_wp2_with (first
              | (at_builtin; refine wpList_append_Own rfl _ _ 44 44 rfl w.heap.size 9 1 16 i1 (.string ⟨#[]⟩) Tryz.underlying44 Hs1.out Hs2.out Hs3.out rfl Hs4.out la m2 lc _ rfl (M2.out.ot.alloc _) _ 1 _ rfl (Src.cells Tryz.underlying44 (heap_alloc_new _ _) 1 1 1 (by rfl) (by simp [Value.oneCell'])) (by unfold maxLen; omega) (by omega) (by have := M2.out.chg.size; simp; omega) ?_; intro la3 lc3 w3 hown3 hchg3 hb3 _; have M3 := Lib.hid (MPut.text (M2.out.quiet ((Chg.refl _ _).alloc _)) hown3 hchg3 (fun k h => h.1)); clear hown3 hchg3 hb3)
              | (at_builtin; refine wpList_append_Own rfl _ _ 45 45 rfl w.heap.size 4 1 1 i2 (.bool false) Tryz.underlying45 Hb1.out Hb2.out Hb3.out rfl Hb4.out oa m2 oc _ rfl (M3.out.ob.alloc _) _ 1 _ rfl (Src.cells Tryz.underlying45 (heap_alloc_new _ _) 1 1 1 (by rfl) (by simp [Value.oneCell'])) (by unfold maxLen; omega) (by omega) (by have := M3.out.chg.size; simp; omega) ?_; intro oa4 oc4 w4 hown4 hchg4 hb4 _; have M4 := Lib.hid (MPut.bools (M3.out.quiet ((Chg.refl _ _).alloc _)) hown4 hchg4 (fun k h => h.1)); clear hown4 hchg4 hb4))
            go_roundw
            case rel =>
              have h1 := HS1.out.1
              have h2 := HS1.out.2
              rw [if_pos YK.out, ← HT.out, RR.out, LB.out] at h1
              rw [if_pos YK.out, ← HT.out] at h2
              have h3 := M4.out
              refine ⟨i + 1, m2 + 1, 0, la3, lc3, oa4, oc4, none, 0, [], by omega, rfl, rfl, by go_num, by omega, by omega, rfl, by rw [h1, List.length_append, ML.out]; rfl, h2, ?_⟩
              rw [h1]
              have e1 : ∀ (A : List (List UInt8 × Bool)) (b : List UInt8 × Bool), txts (A ++ [b]) = txts A ++ [.string ⟨b.1.toArray⟩] := fun A b => by simp [txts]
              have e2 : ∀ (A : List (List UInt8 × Bool)) (b : List UInt8 × Bool), bols (A ++ [b]) = bols A ++ [.bool b.2] := fun A b => by simp [bols]
              rw [e1, e2]
              exact h3
            case measure => simp [intOf]; omega
          | false =>
            have LB : Hid (refLine X = ([], true)) := Lib.hid (by unfold refLine; rw [HX.out, hv]; rfl)
            refine Calls.mono (may_any XR.out hv) ?_
            rintro e w' ⟨rfl, z, rfl⟩
            clear hv
            have M2 := Lib.hid (M1.out.quiet ((Chg.refl _ _).drewN z))
            have XR2 := Lib.hid (XR.out.drewN z)
            have hcv := XR2.out.string (P := Tryz.prog) Tryz.underlying42 Tryz.underlying5 Tryz.underlying9
            clear M1 XR
            generalize W1.drewN z = W2 at M2 XR2 hcv ⊢
            go_wp2_with (first
              | (at_builtin; refine wpList_append_Own rfl _ _ 44 44 rfl w.heap.size 9 1 16 i1 (.string ⟨#[]⟩) Tryz.underlying44 Hs1.out Hs2.out Hs3.out rfl Hs4.out la m2 lc _ rfl (M2.out.ot.alloc _) _ 1 _ rfl (Src.cells Tryz.underlying44 (heap_alloc_new _ _) 1 1 1 (by rfl) (by simp [Value.oneCell'])) (by unfold maxLen; omega) (by omega) (by have := M2.out.chg.size; simp; omega) ?_; intro la3 lc3 w3 hown3 hchg3 hb3 _; have M3 := Lib.hid (MPut.text (M2.out.quiet ((Chg.refl _ _).alloc _)) hown3 hchg3 (fun k h => h.1)); clear hown3 hchg3 hb3)
              | (at_builtin; refine wpList_append_Own rfl _ _ 45 45 rfl w.heap.size 4 1 1 i2 (.bool false) Tryz.underlying45 Hb1.out Hb2.out Hb3.out rfl Hb4.out oa m2 oc _ rfl (M3.out.ob.alloc _) _ 1 _ rfl (Src.cells Tryz.underlying45 (heap_alloc_new _ _) 1 1 1 (by rfl) (by simp [Value.oneCell'])) (by unfold maxLen; omega) (by omega) (by have := M3.out.chg.size; simp; omega) ?_; intro oa4 oc4 w4 hown4 hchg4 hb4 _; have M4 := Lib.hid (MPut.bools (M3.out.quiet ((Chg.refl _ _).alloc _)) hown4 hchg4 (fun k h => h.1)); clear hown4 hchg4 hb4))
            go_roundw
            case rel =>
              have h1 := HS1.out.1
              have h2 := HS1.out.2
              rw [if_pos YK.out, ← HT.out, RR.out, LB.out] at h1
              rw [if_pos YK.out, ← HT.out] at h2
              have h3 := M4.out
              refine ⟨i + 1, m2 + 1, 0, la3, lc3, oa4, oc4, none, 0, [], by omega, rfl, rfl, by go_num, by omega, by omega, rfl, by rw [h1, List.length_append, ML.out]; rfl, h2, ?_⟩
              rw [h1]
              have e1 : ∀ (A : List (List UInt8 × Bool)) (b : List UInt8 × Bool), txts (A ++ [b]) = txts A ++ [.string ⟨b.1.toArray⟩] := fun A b => by simp [txts]
              have e2 : ∀ (A : List (List UInt8 × Bool)) (b : List UInt8 × Bool), bols (A ++ [b]) = bols A ++ [.bool b.2] := fun A b => by simp [bols]
              rw [e1, e2]
              exact h3
            case measure => simp [intOf]; omega
        · obtain ⟨o9, ho9, hc9⟩ := hrd2.2.2.2.2 (by have := hrd2.2.1; omega)
          have hw : IntKind.i64.wrap ((rl : Int) - 1) = ((rl - 1 : Nat) : Int) := by rw [IntWalk.i64_in _ ⟨by omega, by omega⟩]; omega
          have d9 := hc9 (rl - 1) (by omega)
          have d8 : wr.cell? ⟨bl, o9 + (rl - 1), none⟩ = some (bv (R.getD (rl - 1) 0)) := by
            obtain ⟨o8, ho8, hc8⟩ := hrd.2.2.2.2 (by have := hrd2.2.1; omega)
            rw [ho9] at ho8
            simp only [Option.some.injEq, Addr.mk.injEq, and_true, true_and] at ho8
            subst ho8
            exact hc8 (rl - 1) (by omega)
          have nb := nbl (by have := hrd2.2.1; omega)
          obtain ⟨sl3, r3⟩ := hrd2.upto (P := Tryz.prog) (t := 42) Tryz.underlying42 (by kernel_rfl) .i64 (m := rl - 1) (by omega)
          subst ho9
          have hb8 : bv (R.getD (rl - 1) 0) = .int .u8 ((R.getD (rl - 1) 0).toNat : Int) := rfl
          rw [hb8] at d8 d9
          have hlast : R.getLast? = some (R.getD (rl - 1) 0) := by
            rw [List.getLast?_eq_getElem?, RL.out]; simp [List.getD, show rl - 1 < R.length by have := RL.out; omega]
          have hk : 0 < (rl : Int) := by omega
          have hk0 : (0 : Int) ≤ ((rl - 1 : Nat) : Int) := by omega
          have hk1 : ((rl - 1 : Nat) : Int) < (rl : Int) := by omega
          have htl : R.dropLast = R.take (rl - 1) := by rw [List.dropLast_eq_take, RL.out]
          generalize R.getD (rl - 1) 0 = c9 at d8 d9 hlast
          generalize rl - 1 = k9 at d8 d9 hw sl3 r3 hk0 hk1 htl
          by_cases h13 : c9 = 13
          · have hb : ((c9.toNat : Int) == 13) = true := by rw [h13]; rfl
            have e : X = R.take k9 := by rw [← hX]; unfold trimCR; rw [if_pos (by rw [hlast, h13]), htl]
            have XR := Lib.hid r3
            rw [← e] at XR
            clear OW hbl hrd nbl hrd2 hX hc9 hlast htl r3 e hb8 h13
            go_wp2_with fail
            obtain ⟨W1, hW1⟩ : ∃ W1, W1 = wr.setCell ⟨q, 0, none⟩ (.slice none 0 0) := ⟨_, rfl⟩
            rw [← hW1] at M1 XR ⊢
            clear hW1
            cases hv : mayB X with
            | true =>
              have LB : Hid (refLine R = (X, false)) := Lib.hid (by unfold refLine; rw [HX.out, if_pos hv])
              refine Calls.mono (may_any XR.out hv) ?_
              rintro e w' ⟨rfl, z, rfl⟩
              clear hv
              have M2 := Lib.hid (M1.out.quiet ((Chg.refl _ _).drewN z))
              have XR2 := Lib.hid (XR.out.drewN z)
              have hcv := XR2.out.string (P := Tryz.prog) Tryz.underlying42 Tryz.underlying5 Tryz.underlying9
              clear M1 XR
              generalize W1.drewN z = W2 at M2 XR2 hcv ⊢
              go_wp2_with (first
                | (at_builtin; refine wpList_append_Own rfl _ _ 44 44 rfl w.heap.size 9 1 16 i1 (.string ⟨#[]⟩) Tryz.underlying44 Hs1.out Hs2.out Hs3.out rfl Hs4.out la m2 lc _ rfl (M2.out.ot.alloc _) _ 1 _ rfl (Src.cells Tryz.underlying44 (heap_alloc_new _ _) 1 1 1 (by rfl) (by simp [Value.oneCell'])) (by unfold maxLen; omega) (by omega) (by have := M2.out.chg.size; simp; omega) ?_; intro la3 lc3 w3 hown3 hchg3 hb3 _; have M3 := Lib.hid (MPut.text (M2.out.quiet ((Chg.refl _ _).alloc _)) hown3 hchg3 (fun k h => h.1)); clear hown3 hchg3 hb3)
                | (at_builtin; refine wpList_append_Own rfl _ _ 45 45 rfl w.heap.size 4 1 1 i2 (.bool false) Tryz.underlying45 Hb1.out Hb2.out Hb3.out rfl Hb4.out oa m2 oc _ rfl (M3.out.ob.alloc _) _ 1 _ rfl (Src.cells Tryz.underlying45 (heap_alloc_new _ _) 1 1 1 (by rfl) (by simp [Value.oneCell'])) (by unfold maxLen; omega) (by omega) (by have := M3.out.chg.size; simp; omega) ?_; intro oa4 oc4 w4 hown4 hchg4 hb4 _; have M4 := Lib.hid (MPut.bools (M3.out.quiet ((Chg.refl _ _).alloc _)) hown4 hchg4 (fun k h => h.1)); clear hown4 hchg4 hb4))
              go_roundw
              case rel =>
                have h1 := HS1.out.1
                have h2 := HS1.out.2
                rw [if_pos YK.out, ← HT.out, RR.out, LB.out] at h1
                rw [if_pos YK.out, ← HT.out] at h2
                have h3 := M4.out
                refine ⟨i + 1, m2 + 1, 0, la3, lc3, oa4, oc4, none, 0, [], by omega, rfl, rfl, by go_num, by omega, by omega, rfl, by rw [h1, List.length_append, ML.out]; rfl, h2, ?_⟩
                rw [h1]
                have e1 : ∀ (A : List (List UInt8 × Bool)) (b : List UInt8 × Bool), txts (A ++ [b]) = txts A ++ [.string ⟨b.1.toArray⟩] := fun A b => by simp [txts]
                have e2 : ∀ (A : List (List UInt8 × Bool)) (b : List UInt8 × Bool), bols (A ++ [b]) = bols A ++ [.bool b.2] := fun A b => by simp [bols]
                rw [e1, e2]
                exact h3
              case measure => simp [intOf]; omega
            | false =>
              have LB : Hid (refLine R = ([], true)) := Lib.hid (by unfold refLine; rw [HX.out, hv]; rfl)
              refine Calls.mono (may_any XR.out hv) ?_
              rintro e w' ⟨rfl, z, rfl⟩
              clear hv
              have M2 := Lib.hid (M1.out.quiet ((Chg.refl _ _).drewN z))
              have XR2 := Lib.hid (XR.out.drewN z)
              have hcv := XR2.out.string (P := Tryz.prog) Tryz.underlying42 Tryz.underlying5 Tryz.underlying9
              clear M1 XR
              generalize W1.drewN z = W2 at M2 XR2 hcv ⊢
              go_wp2_with (first
                | (at_builtin; refine wpList_append_Own rfl _ _ 44 44 rfl w.heap.size 9 1 16 i1 (.string ⟨#[]⟩) Tryz.underlying44 Hs1.out Hs2.out Hs3.out rfl Hs4.out la m2 lc _ rfl (M2.out.ot.alloc _) _ 1 _ rfl (Src.cells Tryz.underlying44 (heap_alloc_new _ _) 1 1 1 (by rfl) (by simp [Value.oneCell'])) (by unfold maxLen; omega) (by omega) (by have := M2.out.chg.size; simp; omega) ?_; intro la3 lc3 w3 hown3 hchg3 hb3 _; have M3 := Lib.hid (MPut.text (M2.out.quiet ((Chg.refl _ _).alloc _)) hown3 hchg3 (fun k h => h.1)); clear hown3 hchg3 hb3)
                | (at_builtin; refine wpList_append_Own rfl _ _ 45 45 rfl w.heap.size 4 1 1 i2 (.bool false) Tryz.underlying45 Hb1.out Hb2.out Hb3.out rfl Hb4.out oa m2 oc _ rfl (M3.out.ob.alloc _) _ 1 _ rfl (Src.cells Tryz.underlying45 (heap_alloc_new _ _) 1 1 1 (by rfl) (by simp [Value.oneCell'])) (by unfold maxLen; omega) (by omega) (by have := M3.out.chg.size; simp; omega) ?_; intro oa4 oc4 w4 hown4 hchg4 hb4 _; have M4 := Lib.hid (MPut.bools (M3.out.quiet ((Chg.refl _ _).alloc _)) hown4 hchg4 (fun k h => h.1)); clear hown4 hchg4 hb4))
              go_roundw
              case rel =>
                have h1 := HS1.out.1
                have h2 := HS1.out.2
                rw [if_pos YK.out, ← HT.out, RR.out, LB.out] at h1
                rw [if_pos YK.out, ← HT.out] at h2
                have h3 := M4.out
                refine ⟨i + 1, m2 + 1, 0, la3, lc3, oa4, oc4, none, 0, [], by omega, rfl, rfl, by go_num, by omega, by omega, rfl, by rw [h1, List.length_append, ML.out]; rfl, h2, ?_⟩
                rw [h1]
                have e1 : ∀ (A : List (List UInt8 × Bool)) (b : List UInt8 × Bool), txts (A ++ [b]) = txts A ++ [.string ⟨b.1.toArray⟩] := fun A b => by simp [txts]
                have e2 : ∀ (A : List (List UInt8 × Bool)) (b : List UInt8 × Bool), bols (A ++ [b]) = bols A ++ [.bool b.2] := fun A b => by simp [bols]
                rw [e1, e2]
                exact h3
              case measure => simp [intOf]; omega
          · have hb : ((c9.toNat : Int) == 13) = false := by rw [beq_eq_false_iff_ne]; intro e; exact h13 (UInt8.toNat_inj.1 (by show c9.toNat = 13; omega))
            have e : X = R := by rw [← hX]; unfold trimCR; rw [if_neg (by rw [hlast]; simpa using h13)]
            subst e
            have XR := Lib.hid hrd2
            clear OW hbl hrd nbl hrd2 hX hc9 hlast htl r3 sl3 hb8 h13
            go_wp2_with fail
            obtain ⟨W1, hW1⟩ : ∃ W1, W1 = wr.setCell ⟨q, 0, none⟩ (.slice none 0 0) := ⟨_, rfl⟩
            rw [← hW1] at M1 XR ⊢
            clear hW1
            cases hv : mayB X with
            | true =>
              have LB : Hid (refLine X = (X, false)) := Lib.hid (by unfold refLine; rw [HX.out, if_pos hv])
              refine Calls.mono (may_any XR.out hv) ?_
              rintro e w' ⟨rfl, z, rfl⟩
              clear hv
              have M2 := Lib.hid (M1.out.quiet ((Chg.refl _ _).drewN z))
              have XR2 := Lib.hid (XR.out.drewN z)
              have hcv := XR2.out.string (P := Tryz.prog) Tryz.underlying42 Tryz.underlying5 Tryz.underlying9
              clear M1 XR
              generalize W1.drewN z = W2 at M2 XR2 hcv ⊢
              go_wp2_with (first
                | (at_builtin; refine wpList_append_Own rfl _ _ 44 44 rfl w.heap.size 9 1 16 i1 (.string ⟨#[]⟩) Tryz.underlying44 Hs1.out Hs2.out Hs3.out rfl Hs4.out la m2 lc _ rfl (M2.out.ot.alloc _) _ 1 _ rfl (Src.cells Tryz.underlying44 (heap_alloc_new _ _) 1 1 1 (by rfl) (by simp [Value.oneCell'])) (by unfold maxLen; omega) (by omega) (by have := M2.out.chg.size; simp; omega) ?_; intro la3 lc3 w3 hown3 hchg3 hb3 _; have M3 := Lib.hid (MPut.text (M2.out.quiet ((Chg.refl _ _).alloc _)) hown3 hchg3 (fun k h => h.1)); clear hown3 hchg3 hb3)
                | (at_builtin; refine wpList_append_Own rfl _ _ 45 45 rfl w.heap.size 4 1 1 i2 (.bool false) Tryz.underlying45 Hb1.out Hb2.out Hb3.out rfl Hb4.out oa m2 oc _ rfl (M3.out.ob.alloc _) _ 1 _ rfl (Src.cells Tryz.underlying45 (heap_alloc_new _ _) 1 1 1 (by rfl) (by simp [Value.oneCell'])) (by unfold maxLen; omega) (by omega) (by have := M3.out.chg.size; simp; omega) ?_; intro oa4 oc4 w4 hown4 hchg4 hb4 _; have M4 := Lib.hid (MPut.bools (M3.out.quiet ((Chg.refl _ _).alloc _)) hown4 hchg4 (fun k h => h.1)); clear hown4 hchg4 hb4))
              go_roundw
              case rel =>
                have h1 := HS1.out.1
                have h2 := HS1.out.2
                rw [if_pos YK.out, ← HT.out, RR.out, LB.out] at h1
                rw [if_pos YK.out, ← HT.out] at h2
                have h3 := M4.out
                refine ⟨i + 1, m2 + 1, 0, la3, lc3, oa4, oc4, none, 0, [], by omega, rfl, rfl, by go_num, by omega, by omega, rfl, by rw [h1, List.length_append, ML.out]; rfl, h2, ?_⟩
                rw [h1]
                have e1 : ∀ (A : List (List UInt8 × Bool)) (b : List UInt8 × Bool), txts (A ++ [b]) = txts A ++ [.string ⟨b.1.toArray⟩] := fun A b => by simp [txts]
                have e2 : ∀ (A : List (List UInt8 × Bool)) (b : List UInt8 × Bool), bols (A ++ [b]) = bols A ++ [.bool b.2] := fun A b => by simp [bols]
                rw [e1, e2]
                exact h3
              case measure => simp [intOf]; omega
            | false =>
              have LB : Hid (refLine X = ([], true)) := Lib.hid (by unfold refLine; rw [HX.out, hv]; rfl)
              refine Calls.mono (may_any XR.out hv) ?_
              rintro e w' ⟨rfl, z, rfl⟩
              clear hv
              have M2 := Lib.hid (M1.out.quiet ((Chg.refl _ _).drewN z))
              have XR2 := Lib.hid (XR.out.drewN z)
              have hcv := XR2.out.string (P := Tryz.prog) Tryz.underlying42 Tryz.underlying5 Tryz.underlying9
              clear M1 XR
              generalize W1.drewN z = W2 at M2 XR2 hcv ⊢
              go_wp2_with (first
                | (at_builtin; refine wpList_append_Own rfl _ _ 44 44 rfl w.heap.size 9 1 16 i1 (.string ⟨#[]⟩) Tryz.underlying44 Hs1.out Hs2.out Hs3.out rfl Hs4.out la m2 lc _ rfl (M2.out.ot.alloc _) _ 1 _ rfl (Src.cells Tryz.underlying44 (heap_alloc_new _ _) 1 1 1 (by rfl) (by simp [Value.oneCell'])) (by unfold maxLen; omega) (by omega) (by have := M2.out.chg.size; simp; omega) ?_; intro la3 lc3 w3 hown3 hchg3 hb3 _; have M3 := Lib.hid (MPut.text (M2.out.quiet ((Chg.refl _ _).alloc _)) hown3 hchg3 (fun k h => h.1)); clear hown3 hchg3 hb3)
                | (at_builtin; refine wpList_append_Own rfl _ _ 45 45 rfl w.heap.size 4 1 1 i2 (.bool false) Tryz.underlying45 Hb1.out Hb2.out Hb3.out rfl Hb4.out oa m2 oc _ rfl (M3.out.ob.alloc _) _ 1 _ rfl (Src.cells Tryz.underlying45 (heap_alloc_new _ _) 1 1 1 (by rfl) (by simp [Value.oneCell'])) (by unfold maxLen; omega) (by omega) (by have := M3.out.chg.size; simp; omega) ?_; intro oa4 oc4 w4 hown4 hchg4 hb4 _; have M4 := Lib.hid (MPut.bools (M3.out.quiet ((Chg.refl _ _).alloc _)) hown4 hchg4 (fun k h => h.1)); clear hown4 hchg4 hb4))
              go_roundw
              case rel =>
                have h1 := HS1.out.1
                have h2 := HS1.out.2
                rw [if_pos YK.out, ← HT.out, RR.out, LB.out] at h1
                rw [if_pos YK.out, ← HT.out] at h2
                have h3 := M4.out
                refine ⟨i + 1, m2 + 1, 0, la3, lc3, oa4, oc4, none, 0, [], by omega, rfl, rfl, by go_num, by omega, by omega, rfl, by rw [h1, List.length_append, ML.out]; rfl, h2, ?_⟩
                rw [h1]
                have e1 : ∀ (A : List (List UInt8 × Bool)) (b : List UInt8 × Bool), txts (A ++ [b]) = txts A ++ [.string ⟨b.1.toArray⟩] := fun A b => by simp [txts]
                have e2 : ∀ (A : List (List UInt8 × Bool)) (b : List UInt8 × Bool), bols (A ++ [b]) = bols A ++ [.bool b.2] := fun A b => by simp [bols]
                rw [e1, e2]
                exact h3
              case measure => simp [intOf]; omega
      · have hne : ((c.toNat : Int) != 10) = true := by
          rw [bne_iff_ne]; intro e; exact h10 (UInt8.toNat_inj.1 (by show c.toNat = 10; omega))
        have dA : ∀ o, (wr.alloc o).cell? ⟨q, 0, none⟩ = some (.slice am rl cm) := fun o => (((Chg.refl Non wr).alloc o).cell (p := ⟨q, 0, none⟩) M.out.st.lt (fun h => h)).trans c0
        have dB : ∀ o, (wr.drew.alloc o).cell? ⟨q, 0, none⟩ = some (.slice am rl cm) := fun o => (((Chg.refl Non wr).drew.alloc o).cell (p := ⟨q, 0, none⟩) M.out.st.lt (fun h => h)).trans c0
        have NK := Lib.hid h10
        have QL := Lib.hid M.out.st.lt
        have QB : Hid (∀ k, some k = blk am → k ≠ q) := Lib.hid M.out.st.apart
        have OW : Hid (Own wr B 5 1 am rl cm (R.map bv)) := Lib.hid (by have := M.out.st.own; rw [RL.out] at this; exact this)
        have BW : Hid (B ≤ wr.heap.size) := Lib.hid (by have h1 := M.out.st.base; have h2 := M.out.st.lt; omega)
        clear h10
        go_wp2_with fail
        go_region_law ((refine step_append_Own (by rfl) _ _ 42 42 (by rfl) B 5 1 1 i0 (.int .u8 0) Tryz.underlying42 Hi.out Hz0.out Hz1.out (by rfl) Hz2.out am rl cm (R.map bv) (by rfl) (OW.out.drew.alloc _) (.slice (some ⟨wr.heap.size, 0, none⟩) 1 1) 1 [.int .u8 (c.toNat : Int)] (by rfl) (Src.cells Tryz.underlying42 (heap_alloc_new wr.drew (.cells #[.int .u8 (c.toNat : Int)] 5 (0, 0))) 1 1 1 (by rfl) (by simp [Value.oneCell'])) (by unfold maxLen; omega) (by omega) (by have := BW.out; simp <;> omega) ?_; intro am1 cm1 w1 hown1 hchg1 hb1 _; have hq1 : w1.heap[q]? = (wr.drew.alloc (.cells #[.int .u8 (c.toNat : Int)] 5 (0, 0))).heap[q]? := hchg1.block q (by have := QL.out; simp; omega) (fun h => QB.out q h.1 rfl); have k6 : w1.cell? ⟨q, 0, none⟩ = some (.slice am rl cm) := (by rw [World.cell?_of_block (a := ⟨q, 0, none⟩) hq1]; exact dB _); have k7 : w1.frozen? ⟨q, 0, none⟩ = false := (by rw [World.frozen?_of_block (a := ⟨q, 0, none⟩) hq1]; exact (frozen_of_row _ q 0 _ _ ((((Chg.refl Non wr).drew.alloc _).block q QL.out (fun h => h)).trans M.out.st.hp)))))
        all_goals
          have M1 : Hid (MPut w (w1.setCell ⟨q, 0, none⟩ (.slice am1 (rl + 1) cm1)) B q b2 am0 _ n c1 bs la lc m2 _ oa oc m2 _ am1 cm1 (R ++ [c])) := Lib.hid (M.out.push ((Chg.refl _ wr).drew.alloc _) (by rw [RL.out]) (by simpa [bv] using hown1) hchg1 (fun k h => h.1) (by simpa using hb1))
          clear hown1 hchg1 hb1
          go_wp2_with fail
          go_roundw
          case rel =>
            have h1 := HS1.out.1
            have h2 := HS1.out.2
            rw [if_neg NK.out, List.append_nil, ← HT.out] at h1
            rw [if_neg NK.out, RR.out, ← HT.out] at h2
            exact ⟨i + 1, m2, rl + 1, la, lc, oa, oc, am1, cm1, R ++ [c], by omega, rfl, rfl, by go_num, by omega, by omega, by rw [List.length_append, RL.out]; rfl, by rw [h1]; exact ML.out, h2, by rw [h1]; exact M1.out⟩
          case measure => simp [intOf]; omega
    · obtain rfl : i = n := by omega
      have e : bs.take i = bs := List.take_of_length_le (by have := LN.out; omega)
      have M2 := M.out
      have m2l := ML.out
      rw [e, HL.out] at M2 m2l
      rw [HM.out] at m2l
      have R2 := RR.out
      rw [e, HR'.out] at R2
      subst m2l
      subst R2
      have MM := Lib.hid M2
      clear M2 e
      go_wp2_with fail
      go_ret3
      exact ⟨la, lc, oa, oc, am, cm, rfl, MM.out⟩
end Go.Proofs.YtjjppbfknjeddaaGreatDoor
