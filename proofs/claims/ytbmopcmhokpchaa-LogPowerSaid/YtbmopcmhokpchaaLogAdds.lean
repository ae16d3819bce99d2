/- LogAdds, walked. -/
import Derived.Test.YtbmopcmhokpchaaLogLives
import Derived.Test.YtbmopcmhokpchaaLogStrs
import Derived.Laws.IdiomStrings
namespace Go.Proofs.Ytbmopcmhokpchaa
open Go.RowKit
set_option linter.unusedVariables false
set_option linter.unusedSimpArgs false
attribute [local go_sem ↓] Go.wp_at_zero Go.wp_at_succ
theorem Strs.chg {w w' : World} {ao : Option Addr} {n cap : Nat} {f : Nat → List UInt8} (h : Strs w ao n cap f) (hc : Chg Non w w') : Strs w' ao n cap f := by
  obtain ⟨h1, h2, h3, h4⟩ := h
  refine ⟨h1, h2, h3, fun hp => ?_⟩
  obtain ⟨b, off, rfl, hb, hk⟩ := h4 hp
  exact ⟨b, off, rfl, Nat.lt_of_lt_of_le hb hc.size, fun i hi => (hc.cell (p := ⟨b, off + i, none⟩) hb (fun h => h)).trans (hk i hi)⟩
def sumL (f : Nat → List UInt8) : Nat → Nat
  | 0 => 0
  | k + 1 => sumL f k + (f k).length
theorem sumL_le {f : Nat → List UInt8} {M : Nat} : ∀ {k : Nat}, (∀ i, i < k → (f i).length ≤ M) → sumL f k ≤ k * M
  | 0, _ => Nat.zero_le _
  | k + 1, h => by
    have h1 := sumL_le (f := f) (k := k) (fun i hi => h i (by omega))
    have h2 := h k (by omega)
    simp only [sumL, Nat.add_mul, Nat.one_mul]
    omega
theorem sumL_mono {f : Nat → List UInt8} {j : Nat} : ∀ {k : Nat}, j ≤ k → sumL f j ≤ sumL f k
  | 0, h => by rw [Nat.le_zero.1 h]; exact Nat.le_refl _
  | k + 1, h => by
    by_cases e : j = k + 1
    · rw [e]; exact Nat.le_refl _
    · have := sumL_mono (f := f) (j := j) (k := k) (by omega)
      simp only [sumL]; omega
theorem sumL_at {f : Nat → List UInt8} {i k : Nat} (h : i < k) : (f i).length ≤ sumL f k := by
  have := sumL_mono (f := f) (j := i + 1) (k := k) h
  simp only [sumL] at this
  omega
theorem bytesRow_get {l : List UInt8} {cap j : Nat} (hj : j < l.length) : (bytesRow ⟨l.toArray⟩ cap)[j]? = some (bv (l.getD j 0)) := by
  unfold bytesRow
  rw [Array.getElem?_append_left (by simpa using hj)]
  simp [List.getD, hj, bv]
theorem ba_size (l : List UInt8) : (⟨l.toArray⟩ : ByteArray).size = l.length := by simp [ByteArray.size]
/-- '[]byte(s)': new memory. -/
theorem conv_bytes (w : World) (s : List UInt8) {R : Nat} (hR : s.length = R) (hs : R ≤ maxLen) : ∃ cap W, (convert 9 33 (.string ⟨s.toArray⟩)).run Try.prog w = .ok (.slice (some ⟨w.heap.size, 0, none⟩) R cap) W ∧
    Rd W w.heap.size (some ⟨w.heap.size, 0, none⟩) R cap s ∧ Chg Non w W := by
  subst hR
  have h := run_bytes_of_string w 9 33 5 ⟨s.toArray⟩ Try.underlying9 Try.underlying33 Try.underlying5
  rw [ba_size] at h
  have hge := grownCap_ge w s.length 0 5
  have hle := grownCap_le_maxLen w s.length 0 5 hs
  have hb : ∀ o, (w.drew.alloc o).heap[w.heap.size]? = some o := fun o => heap_alloc_new w.drew o
  refine ⟨_, _, h, ⟨rfl, hge, hle, (fun h => by cases h), fun _ => ⟨0, rfl, fun i hi => ?_⟩⟩, ((Chg.refl Non w).drew).alloc _⟩
  rw [Nat.zero_add, cell_of_row _ w.heap.size i _ _ _ (hb _)]
  exact bytesRow_get hi
/-- What a loop that only adds records has. -/
structure AddsR (w wr : World) (p : Nat) (acc : List (List UInt8)) (aw : Option Addr) (cw : Nat) (ad : Option Addr) (cd : Nat) (X U : Nat) : Prop where
  own : Own wr w.heap.size 9 1 aw acc.length cw (acc.map tv)
  disk : DiskAt wr w.heap.size p ad cd X U (flat acc)
  sep1 : ∀ k, some k = blk aw → k ≠ p
  sep2 : ∀ k, some k = blk aw → ¬ some k = blk ad
  chg : Chg Non w wr
theorem AddsR.non {w wr w2 : World} {p : Nat} {acc : List (List UInt8)} {aw : Option Addr} {cw : Nat} {ad : Option Addr} {cd X U : Nat} (h : AddsR w wr p acc aw cw ad cd X U) (hc : Chg Non wr w2) : AddsR w w2 p acc aw cw ad cd X U :=
  ⟨h.own.chg hc (fun _ _ h => h), h.disk.chg hc (fun h => h) (fun _ _ h => h), h.sep1, h.sep2, h.chg.trans hc⟩
theorem AddsR.to {w wr w2 : World} {p : Nat} {acc : List (List UInt8)} {aw : Option Addr} {cw : Nat} {ad : Option Addr} {cd X U : Nat} (h : AddsR w wr p acc aw cw ad cd X U) {a2 : Option Addr} {c2 U2 : Nat} {bs : List UInt8} (hd : DiskTo wr w2 w.heap.size p ad a2 c2 X U2 bs) :
    Own w2 w.heap.size 9 1 aw acc.length cw (acc.map tv) ∧ (∀ k, some k = blk aw → ¬ some k = blk a2) ∧ Chg Non w w2 := by
  refine ⟨h.own.chg hd.chg (fun k hk e => ?_), fun k hk e => ?_, h.chg.next hd.chg (fun i hi e => ?_)⟩
  · rcases e with e | e
    · exact h.sep1 k hk e
    · exact h.sep2 k hk e
  · rcases hd.new k e with e | e
    · exact h.sep2 k hk e
    · have := (h.own.lt k hk).2; omega
  · rcases e with e | e
    · have := h.disk.base; omega
    · have := (h.disk.own.lt i e).1; omega
theorem Try.info_txt : (Try.prog.info? 9).map (fun i => (i.zero, i.size, i.bytes)) = some (some (.string ⟨#[]⟩), 1, 16) := by kernel_rfl
theorem adds_snoc {w w2 w3 : World} {o : Obj} {p : Nat} {acc acc2 : List (List UInt8)} {r : List UInt8} {aw a3 a2 : Option Addr} {c3 c2 X U2 : Nat} {T : Prop} (S1 : ∀ k, some k = blk aw → k ≠ p) (S2 : ∀ k, some k = blk aw → ¬ some k = blk a2) (ch : Chg Non w w2) (hd : DiskAt w2 w.heap.size p a2 c2 X U2 (flat acc2)) (hacc : acc ++ [r] = acc2)
    (hown : Own w3 w.heap.size 9 1 a3 acc2.length c3 (acc.map tv ++ [tv r])) (hchg : Chg (fun k => some k = blk aw ∧ T) (w2.alloc o) w3) (hb : blk a3 = blk aw ∨ blk a3 = some (w2.alloc o).heap.size) (hw : ∀ k, some k = blk aw → w.heap.size ≤ k) : AddsR w w3 p acc2 a3 c3 a2 c2 X U2 := by
  have hd2 : DiskAt (w2.alloc o) w.heap.size p a2 c2 X U2 (flat acc2) := hd.chg (S := Non) ((Chg.refl _ w2).alloc _) (fun h => h) (fun _ _ h => h)
  refine ⟨by rw [← hacc, List.map_append]; rw [← hacc] at hown; exact hown, hd2.chg hchg (fun e => S1 p e.1 rfl) (fun k hk e => S2 k e.1 hk), fun k hk e => ?_, fun k hk e => ?_, (ch.alloc _).next hchg (fun i hi e => by have := hw i e.1; omega)⟩
  · rcases hb with hb | hb
    · exact S1 k (hk.trans hb) e
    · rw [hb] at hk
      cases hk
      have := hd2.lt; omega
  · rcases hb with hb | hb
    · exact S2 k (hk.trans hb) e
    · rw [hb] at hk
      cases hk
      have := (hd2.own.lt _ e).2; omega
set_option maxRecDepth 40000 in
set_option maxHeartbeats 2000000 in
theorem LogAdds_any {w : World} {ao : Option Addr} {n cap : Nat} {f : Nat → List UInt8} (h : Strs w ao n cap f) (hb : ∀ i, i < n → (f i).length ≤ reachBytes) {x : Int} (hx : (Lit.int .u16 x).wf = true) :
    Calls Try.prog 10 #[.slice ao n cap, .int .u16 x] w fun e w' => e = .returned (.bool true) ∧ Below w.heap.size w w' := by
  have hxb : 0 ≤ x ∧ x ≤ 65535 := by
    simp [Lit.wf, IntKind.min, IntKind.max] at hx
    first | omega | (simp [IntKind.signed, IntKind.bits] at hx; omega)
  clear hx
  obtain ⟨X, rfl⟩ := Int.eq_ofNat_of_zero_le hxb.1
  have hX : X ≤ 65535 := by omega
  have hwx : wrap64 (X : Int) = (X : Int) := by unfold wrap64; omega
  clear hxb
  have hb2 : ∀ i, i < n → (f i).length ≤ 140737488351232 := fun i hi => by have := hb i hi; unfold reachBytes at this; omega
  have hcm := h.2.1
  have hnc := h.1
  obtain ⟨i2, hi1, hi2, hi3, hi4⟩ := info_parts Try.info_txt
  have Hs1 := Lib.hid hi1; have Hs2 := Lib.hid hi2; have Hs3 := Lib.hid hi3; have Hs4 := Lib.hid hi4
  clear hi1 hi2 hi3 hi4
  unfold maxLen at hcm
  have HL := Lib.hid h; have HB := Lib.hid hb2
  clear h hb hb2
  by_cases hn : n ≤ 200
  · go_enter Try.func10, Try.ntmps10
    go_wp2_with fail
    go_loopw [5, 6] (fun t i wr => ∃ k : Nat, k ≤ n ∧ t = .int .i64 ((sumL f k : Nat) : Int) ∧ i = .int .i64 (k : Int) ∧ w = wr) (fun _ i _ => n - (intOf i).toNat)
    case atStart => exact ⟨0, by omega, rfl, rfl, rfl⟩
    case round =>
      obtain ⟨k, hk, rfl, rfl, rfl⟩ := hrel
      by_cases hlt : k < n
      · obtain ⟨b, off, rfl, hbl, hcell⟩ := HL.out.2.2.2 (by omega)
        have e1 := hcell k hlt
        have hl1 := HB.out k hlt
        have hl2 := sumL_le (f := f) (M := 140737488351232) (k := k) (fun i hi => HB.out i (by omega))
        have hl3 : k * 140737488351232 ≤ 200 * 140737488351232 := Nat.mul_le_mul_right _ (by omega)
        clear hcell
        obtain ⟨s, hs⟩ : ∃ s, sumL f k = s := ⟨_, rfl⟩
        obtain ⟨r, hr⟩ : ∃ r, f k = r := ⟨_, rfl⟩
        have hsn : sumL f (k + 1) = s + r.length := by rw [← hs, ← hr]; rfl
        rw [hs] at hl2 ⊢
        rw [hr] at e1 hl1
        have HSN := Lib.hid hsn
        clear hs hr hsn
        simp only [tv] at e1
        have k0 : (0 : Int) ≤ (k : Int) := by omega
        have k1 : (k : Int) < (n : Int) := by omega
        go_wp2_with fail
        go_roundw
        case rel => exact ⟨k + 1, by omega, by rw [HSN.out]; go_num, by go_num, by first | rfl | trivial⟩
        case measure => simp [intOf]; omega
      · obtain rfl : k = n := by omega
        obtain ⟨s, hs⟩ : ∃ s, sumL f k = s := ⟨_, rfl⟩
        rw [hs]
        have HS := Lib.hid hs
        clear hs
        by_cases hbig : 20000 < s
        · have k2 : (20000 : Int) < (s : Int) := by omega
          go_wp2_with fail
          refine Calls.mono (lives20_any _) ?_
          rintro e w1 ⟨rfl, hc1⟩
          go_wp2_with fail
          go_ret
          exact ⟨rfl, hc1.belowN⟩
        · have k2 : ¬ (20000 : Int) < (s : Int) := by omega
          have k3 : ¬ (200 : Int) < (k : Int) := by omega
          go_wp2_with fail
          refine Calls.mono (New_of (size := X) (by rfl) (by omega)) ?_
          rintro e w1 ⟨rfl, hd1, hc1⟩
          have A1 : AddsR w w1 w.heap.size [] none 0 none 0 X 0 := ⟨Own.nil _ _ _ _, hd1, (fun k hk => by simp [blk] at hk), (fun k hk => by simp [blk] at hk), hc1⟩
          have A1 := Lib.hid A1
          clear hd1 hc1
          obtain ⟨p, hp⟩ : ∃ p, p = w.heap.size := ⟨_, rfl⟩
          have HP := Lib.hid hp
          rw [← hp] at A1 ⊢
          clear hp
          go_wp2_with fail
          go_loopw [9, 10, 11] (fun a u i wr => ∃ (j U : Nat) (acc : List (List UInt8)) (aw : Option Addr) (cw : Nat) (ad : Option Addr) (cd : Nat), j ≤ k ∧ a = .slice aw acc.length cw ∧ u = .int .i64 (U : Int) ∧ i = .int .i64 (j : Int) ∧ AddsR w wr p acc aw cw ad cd X U ∧ (flat acc).length = U ∧ U ≤ sumL f j + 12 * j ∧ acc.length ≤ j ∧ (∀ r ∈ acc, r.length ≤ 20000)) (fun _ _ i _ => k - (intOf i).toNat)
          case atStart => exact ⟨0, 0, [], none, 0, none, 0, by omega, rfl, rfl, rfl, A1.out, rfl, by omega, Nat.le_refl _, by simp⟩
          case round =>
            clear A1
            obtain ⟨j, U, acc, aw, cw, ad, cd, hj, rfl, rfl, rfl, hA, hU, hUs, hacc, hle⟩ := hrel
            have A := Lib.hid hA; have HU := Lib.hid hU; have HLE := Lib.hid hle
            clear hA hU hle
            by_cases hlt : j < k
            · obtain ⟨b, off, rfl, hbl, hcell⟩ := (HL.out.chg A.out.chg).2.2.2 (by omega)
              have e1 := hcell j hlt
              have hs1 := sumL_at (f := f) hlt
              have hs2 := sumL_mono (f := f) (j := j) (k := k) (by omega)
              have hs3 : sumL f (j + 1) = sumL f j + (f j).length := rfl
              rw [HS.out] at hs1 hs2
              obtain ⟨z, hz⟩ : ∃ z, sumL f j = z := ⟨_, rfl⟩
              obtain ⟨r, hr⟩ : ∃ r, f j = r := ⟨_, rfl⟩
              obtain ⟨R, hR⟩ : ∃ R, r.length = R := ⟨_, rfl⟩
              rw [hr, hR] at hs1
              rw [hz] at hs2 hUs
              rw [hz, hr, hR] at hs3
              have HS3 := Lib.hid hs3; have HR := Lib.hid hR; have HF := Lib.hid hr
              rw [hr] at e1
              simp only [tv] at e1
              clear hcell hz hr hR hs3
              have k0 : (0 : Int) ≤ (j : Int) := by omega
              have k1 : (j : Int) < (k : Int) := by omega
              obtain ⟨cc, wc, hcv, hrc, hcc⟩ := conv_bytes wr r HR.out (by unfold maxLen; omega)
              have RC := Lib.hid hrc; have CC := Lib.hid hcc
              have AC := Lib.hid (A.out.non hcc)
              have PL := Lib.hid (show p < wr.heap.size from A.out.disk.lt)
              have DL := Lib.hid (fun q (hq : some q = blk ad) => (A.out.disk.own.lt q hq).2)
              clear hrc hcc
              go_wp2_with fail
              refine Calls.mono (Add_any AC.out.disk RC.out (fun e => by
                rcases e with e | e
                · have := PL.out; omega
                · have := DL.out _ e; omega) (by omega)) ?_
              rw [HU.out]
              rintro e w2 ⟨ff, a2, c2, rfl, ⟨hfit, rfl, hd⟩ | ⟨hfull, rfl, hd⟩⟩
              · obtain ⟨o2, s2, ch2⟩ := AC.out.to hd
                obtain ⟨acc2, hacc2⟩ : ∃ acc2, acc ++ [r] = acc2 := ⟨_, rfl⟩
                have D2 := hd.at_
                rw [← flat_snoc, hacc2] at D2
                have hl2 : acc2.length = acc.length + 1 := by rw [← hacc2]; simp
                have hf2 : (flat acc2).length = U + 12 + r.length := by rw [← hacc2, flat_snoc, List.length_append, frameB_length, HU.out]; omega
                have e2 := (HL.out.chg ch2).2.2.2 (by omega)
                obtain ⟨b2, off2, hb2, _, hcell2⟩ := e2
                obtain ⟨rfl, rfl⟩ : b2 = b ∧ off2 = off := by simpa using hb2.symm
                have HLC : Hid (∀ w', Chg Non w w' → w'.cell? ⟨b2, off2 + j, none⟩ = some (.string ⟨r.toArray⟩)) := Lib.hid (fun w' hc => by
                  obtain ⟨b9, off9, hb9, _, hcell9⟩ := (HL.out.chg hc).2.2.2 (by omega)
                  obtain ⟨rfl, rfl⟩ : b2 = b9 ∧ off2 = off9 := by simpa using hb9
                  rw [hcell9 j hlt, HF.out]; rfl)
                have e3 := HLC.out _ ch2
                have kf : (U : Int) + 12 + (r.length : Int) ≤ (X : Int) := by have := HR.out; omega
                have kr : r.length ≤ 20000 := by have := HR.out; omega
                have ku : U ≤ 65535 := by omega
                have ka : acc.length ≤ 200 := by omega
                have O2 := Lib.hid o2; have S2 := Lib.hid s2; have CH2 := Lib.hid ch2; have DD2 := Lib.hid D2; have HA2 := Lib.hid hacc2; have L2 := Lib.hid hl2; have F2 := Lib.hid hf2
                clear o2 s2 ch2 D2 hd hb2 hcell2 hacc2 hl2 hf2 e1 hcv
                go_wp2_with (first
                  | (at_builtin; refine wpList_append_Own rfl _ _ 49 49 rfl w.heap.size 9 1 16 i2 (.string ⟨#[]⟩) Try.underlying49 Hs1.out Hs2.out Hs3.out rfl Hs4.out aw acc.length cw _ rfl (O2.out.alloc _) _ 1 _ rfl (Src.cells Try.underlying49 (heap_alloc_new _ _) 1 1 1 (by rfl) (by simp [Value.oneCell'])) (by unfold maxLen; omega) (by omega) (by have := CH2.out.size; simp <;> omega) ?_; intro a3 c3 w3 hown hchg hb _; rw [← L2.out] at hown ⊢; have A3 := Lib.hid (adds_snoc (r := r) (S2 := S2.out) AC.out.sep1 CH2.out DD2.out HA2.out (by simpa [tv] using hown) hchg hb (fun i hi => (O2.out.lt i hi).1)); have e4 : w3.cell? ⟨b2, off2 + j, none⟩ = some (.string ⟨r.toArray⟩) := HLC.out _ A3.out.chg; clear hown hchg hb)
                  | (go_at_call 20; refine Calls.mono (Bytes_of A3.out.disk (n := U + 12 + r.length) F2.out) ?_; rintro e w4 ⟨rfl, _, hc4⟩; have A4 := Lib.hid (A3.out.non hc4); clear hc4)
                  | (go_at_call 22; refine Calls.mono (Sure_of A4.out.disk (S := (U : Int) + 12 + (r.length : Int)) (by have := HR.out; push_cast; omega)) ?_; rintro e w' ⟨rfl, rfl⟩))
                go_roundw
                case rel =>
                  have hA4 := A4.out
                  rw [show U + (R + 12) = U + 12 + r.length by have := HR.out; omega] at hA4
                  refine ⟨j + 1, U + 12 + r.length, acc2, a3, c3, a2, c2, by omega, rfl, by go_num, by go_num, hA4, F2.out, by have := HS3.out; have := HR.out; omega, by have := L2.out; omega, ?_⟩
                  rw [← HA2.out]
                  intro y hy
                  rcases List.mem_append.1 hy with hy | hy
                  · exact HLE.out y hy
                  · rw [List.mem_singleton.1 hy]; have := HR.out; omega
                case measure => simp [intOf]; omega
              · have A2 : Hid (AddsR w w2 p acc aw cw a2 c2 X U) := Lib.hid (by obtain ⟨o2, s2, ch2⟩ := AC.out.to hd; exact ⟨o2, hd.at_, AC.out.sep1, s2, ch2⟩)
                have HLC : Hid (∀ w', Chg Non w w' → w'.cell? ⟨b, off + j, none⟩ = some (.string ⟨r.toArray⟩)) := Lib.hid (fun w' hc => by
                  obtain ⟨b9, off9, hb9, _, hcell9⟩ := (HL.out.chg hc).2.2.2 (by omega)
                  obtain ⟨rfl, rfl⟩ : b = b9 ∧ off = off9 := by simpa using hb9
                  rw [hcell9 j hlt, HF.out]; rfl)
                have e3 := HLC.out _ A2.out.chg
                have kf : ¬ (U : Int) + 12 + (r.length : Int) ≤ (X : Int) := by have := HR.out; omega
                have kr : r.length ≤ 20000 := by have := HR.out; omega
                have ku : U ≤ 65535 := by omega
                clear hd e1 hcv
                go_wp2_with (first
                  | (go_at_call 20; refine Calls.mono (Bytes_of A2.out.disk (n := U) HU.out) ?_; rintro e w4 ⟨rfl, _, hc4⟩; have A4 := Lib.hid (A2.out.non hc4); clear hc4)
                  | (go_at_call 22; refine Calls.mono (Sure_of A4.out.disk (S := (U : Int)) rfl) ?_; rintro e w' ⟨rfl, rfl⟩))
                go_roundw
                case rel => exact ⟨j + 1, U, acc, aw, cw, a2, c2, by omega, rfl, rfl, by go_num, A4.out, HU.out, by have := HS3.out; omega, by omega, HLE.out⟩
                case measure => simp [intOf]; omega
            · have k1 : ¬ (j : Int) < (k : Int) := by omega
              obtain rfl : j = k := by omega
              have hs2 := HS.out
              have hU4 : U ≤ 22400 := by omega
              go_wp2_with fail
              refine Calls.mono (Open_any A.out.disk (framed_flat (fun r hr => by have := HLE.out r hr; omega)) (by rw [HU.out]; omega)) ?_
              rintro e w2 ⟨oa, vs, a2, c2, s2, rfl, hz, hr, hsp, hd, hs1, _⟩
              obtain ⟨o2, sp2, ch2⟩ := A.out.to hd
              have DD := Lib.hid hd.at_; have OO := Lib.hid o2; have CH := Lib.hid ch2; have ZZ := Lib.hid hz; have RR := Lib.hid hr
              clear hz hr hsp hd hs1 o2 sp2 ch2
              obtain ⟨M, hM⟩ : ∃ M, acc.length = M := ⟨_, rfl⟩
              have HM := Lib.hid hM
              rw [hM] at OO ZZ ⊢
              have hMb : M ≤ 200 := by omega
              clear hM hacc
              go_wp2_with fail
              go_loopw [15] (fun i ws => ∃ (q z : Nat), q ≤ M ∧ i = .int .i64 (q : Int) ∧ ws = World.drewN w2 z) (fun i _ => M - (intOf i).toNat)
              case atStart => exact ⟨0, 0, by omega, rfl, rfl⟩
              case round =>
                obtain ⟨q, z, hq, rfl, rfl⟩ := hrel
                by_cases hql : q < M
                · obtain ⟨g1, rfl, _, hc1⟩ := ZZ.out.at_ (by omega)
                  obtain ⟨g2, rfl, _, _, _, hc2, _⟩ := OO.out.form (by have := OO.out.le; omega)
                  have hget : acc[q]? = some (acc.getD q []) := by rw [List.getD, List.getElem?_eq_getElem (by have := HM.out; omega)]; rfl
                  obtain ⟨aq, cq, hv, hs⟩ := RR.out.str hget
                  have d1 := (hc1 q hql).trans hv
                  have d2 := hc2 q (by omega)
                  rw [List.getElem?_map, hget] at d2
                  have hs' : ∀ z, (convert 33 9 (.slice aq (acc.getD q []).length cq)).run Try.prog (w2.drewN z) = .ok (.string ⟨(acc.getD q []).toArray⟩) (w2.drewN z) := fun z => by
                    obtain ⟨aq2, cq2, hv2, hs2⟩ := (RR.out.same (w' := w2.drewN z) (fun _ _ _ _ => rfl)).str hget
                    have e := hv2.symm.trans hv
                    simp only [Option.some.injEq, Value.slice.injEq] at e
                    obtain ⟨rfl, _, rfl⟩ := e
                    exact hs2
                  obtain ⟨t, ht⟩ : ∃ t, acc.getD q [] = t := ⟨_, rfl⟩
                  rw [ht] at d1 d2 hs'
                  simp only [Option.map_some, tv] at d2
                  clear hc1 hc2 hget hv hs ht
                  have q0 : (0 : Int) ≤ (q : Int) := by omega
                  have q1 : (q : Int) < (M : Int) := by omega
                  go_wp2_with fail
                  go_quiet (fail)
                  go_wp2_with fail
                  go_roundw
                  case rel => exact ⟨q + 1, _, by omega, by go_num, by first | rfl | simp only [World.drewN_drewN]⟩
                  case measure => simp [intOf]; omega
                · have q1 : ¬ (q : Int) < (M : Int) := by omega
                  go_wp2_with (first
                    | (go_at_call 20; refine Calls.mono (Bytes_of (DD.out.drewN _) (n := U) HU.out) ?_; rintro e w4 ⟨rfl, _, hc4⟩; have C4 := Lib.hid ((CH.out.drewN z).trans hc4); clear hc4)
                    | (go_at_call 31; refine Calls.mono (lives20_any _) ?_; rintro e w5 ⟨rfl, hc5⟩; have C5 := Lib.hid (C4.out.trans hc5); clear hc5))
                  go_ret
                  exact ⟨rfl, C5.out.belowN⟩
  · have k3 : (200 : Int) < (n : Int) := by omega
    go_enter Try.func10, Try.ntmps10
    go_wp2_with fail
    go_loopw [5, 6] (fun t i wr => ∃ (k : Nat) (z : Int), k ≤ n ∧ t = .int .i64 z ∧ i = .int .i64 (k : Int) ∧ w = wr) (fun _ i _ => n - (intOf i).toNat)
    case atStart => exact ⟨0, 0, by omega, rfl, rfl, rfl⟩
    case round =>
      obtain ⟨k, z, hk, rfl, rfl, rfl⟩ := hrel
      by_cases hlt : k < n
      · obtain ⟨b, off, rfl, hbl, hcell⟩ := HL.out.2.2.2 (by omega)
        have e1 := hcell k hlt
        clear hcell
        obtain ⟨r, hr⟩ : ∃ r, f k = r := ⟨_, rfl⟩
        rw [hr] at e1
        clear hr
        simp only [tv] at e1
        have k0 : (0 : Int) ≤ (k : Int) := by omega
        have k1 : (k : Int) < (n : Int) := by omega
        go_wp2_with fail
        go_roundw
        case rel => exact ⟨k + 1, _, by omega, rfl, by go_num, by first | rfl | trivial⟩
        case measure => simp [intOf]; omega
      · have k1 : ¬ (k : Int) < (n : Int) := by omega
        go_wp2_with fail
        all_goals
          refine Calls.mono (lives20_any _) ?_
          rintro e w1 ⟨rfl, hc1⟩
          go_wp2_with fail
          go_ret
          exact ⟨rfl, hc1.belowN⟩
end Go.Proofs.Ytbmopcmhokpchaa
