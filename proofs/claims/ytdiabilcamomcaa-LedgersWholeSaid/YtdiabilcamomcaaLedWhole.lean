/- What a tenant spent, and what is left, are its rate. -/
import Derived.Test.YtdiabilcamomcaaLedApart
import Derived.Deep.RegionHeld3
namespace Go.Proofs.Ytdiabilcamomcaa
open Go.ChangeShapes Go.WideShapes Go.ChangeAt Go.RowKit Go.Deep
set_option linter.unusedVariables false
variable {w w' : World} {p m : Nat} {A : List Nat} {T : List Ten} {L : Nat → Int}
/-- The slice reads as numbers of 32 bits. -/
def Nums (w : World) (ao : Option Addr) (n cap : Nat) (f : Nat → Int) : Prop := n ≤ cap ∧ cap ≤ maxLen ∧ (∀ i, i < n → 0 ≤ f i ∧ f i < 4294967296) ∧
  (0 < cap → ∃ b off, ao = some ⟨b, off, none⟩ ∧ b < w.heap.size ∧ ∀ i, i < n → w.cell? ⟨b, off + i, none⟩ = some (.int .u32 (f i)))
theorem open_nums {H : Type} {enc : TypeId × Value → H} {held : Bool} {ao : Option Addr} {n cap : Nat} {d : DataW H} {pl : List MemPlace}
    (h : DataW.Trod enc Try.prog w 0 (fun _ => true) held 50 (.slice ao n cap) d pl) : ∃ f, Nums w ao n cap f := by
  obtain ⟨fuel, hf⟩ := h
  rcases open_ints Try.underlying50 Try.underlying53 (by kernel_rfl) hf with ⟨hcs, _⟩ | ⟨x, l, c, zs, hcs, _, hl, hm, hz, _, hcell, hwz⟩
  · simp [Value.cells] at hcs
    obtain ⟨rfl, rfl, rfl⟩ := hcs
    exact ⟨fun _ => 0, Nat.le_refl _, Nat.zero_le _, fun i hi => by omega, fun h => by omega⟩
  · simp [Value.cells] at hcs
    obtain ⟨rfl, rfl, rfl⟩ := hcs
    simp only [if_true] at hz
    have hb : ∀ z ∈ zs, 0 ≤ z ∧ z < 4294967296 := fun z hz => by
      have := hwz z hz
      simp [Lit.wf, IntKind.min, IntKind.max] at this
      first | omega | (simp [IntKind.signed, IntKind.bits] at this; omega)
    refine ⟨fun i => zs.getD i 0, hl, hm, fun i hi => hb _ (by simp [List.getD, show i < zs.length by omega]), fun hp => ?_⟩
    obtain ⟨b, off, spot⟩ := x
    have h0 := hcell 0 (by omega)
    have hspot : spot = none := by simpa [Addr.add] using World.cell?_spot h0
    subst hspot
    refine ⟨b, off, rfl, by simpa [Addr.add] using World.block_lt_of_cell? w _ h0, fun i hi => ?_⟩
    have := hcell i (by omega)
    rwa [Addr.add_lit] at this
theorem Nums.non {ao : Option Addr} {n cap : Nat} {f : Nat → Int} (h : Nums w ao n cap f) (hc : Chg Non w w') : Nums w' ao n cap f := by
  obtain ⟨h1, h2, h3, h4⟩ := h
  refine ⟨h1, h2, h3, fun hp => ?_⟩
  obtain ⟨b, off, rfl, hb, hcell⟩ := h4 hp
  exact ⟨b, off, rfl, Nat.lt_of_lt_of_le hb hc.size, fun i hi => (hc.cell (p := ⟨b, off + i, none⟩) hb (fun h => h)).trans (hcell i hi)⟩
set_option maxRecDepth 20000 in
set_option maxHeartbeats 2000000 in
theorem LedgersWhole_of (hal : Alive) {ao : Option Addr} {len cap : Nat} (h : Tens w ao len cap T) (hok : ∀ i, i < len → TenOk (nth T i)) {x : Int} (hx : (Lit.int .u8 x).wf = true) {so : Option Addr} {sn scap : Nat} {f : Nat → Int} (hs : Nums w so sn scap f) :
    Calls Try.prog 5 #[.slice ao len cap, .int .u8 x, .slice so sn scap] w fun e w' => e = .returned (.bool true) ∧ Below w.heap.size w w' := by
  have hxb : 0 ≤ x ∧ x ≤ 255 := by
    simp [Lit.wf, IntKind.min, IntKind.max] at hx
    first | omega | (simp [IntKind.signed, IntKind.bits] at hx; omega)
  obtain ⟨xk, rfl⟩ : ∃ xk : Nat, x = (xk : Int) := ⟨x.toNat, by omega⟩
  have hcap := h.2.2.1
  have hlc := h.2.1
  have hsc := hs.1
  have hscap := hs.2.1
  unfold maxLen at hcap hscap
  have HT := Lib.hid h; have HO := Lib.hid hok; have HN := Lib.hid hs
  clear h hok hx hs
  have HAL := Lib.hid hal; clear hal
  go_enter Try.func5, Try.ntmps5
  go_wp2_with fail
  refine Calls.mono (HAL.out _) ?_
  rintro e w1 ⟨rfl, hc1⟩
  have C1 := Lib.hid hc1; clear hc1
  by_cases h16 : len ≤ 16 ∧ sn ≤ 100
  · obtain ⟨h16, h100⟩ := h16
    go_wp2_with fail
    refine Calls.mono (TenantsSize_any (HT.out.non C1.out)) ?_
    rintro e w2 ⟨z, q, rfl, rfl⟩
    by_cases hz : z ≤ 5000
    · go_wp2_with fail
      refine Calls.mono (made_any ((HT.out.non C1.out).drewN q) HO.out) ?_
      rintro e w3 ⟨hc3, ⟨hM, p, m, A, rfl, hl, hb⟩ | ⟨hM, rfl⟩⟩
      · have hTl := HT.out.1
        have hA : A.length = len := hl.len.trans hTl
        have C3 := Lib.hid ((C1.out.drewN q).trans hc3)
        have hb' : ∀ k, (∃ j, j < A.length ∧ k = adr A j) → w.heap.size ≤ k := fun k ⟨j, hj, e⟩ => Nat.le_trans (by simpa using C1.out.size) (hb k (.inr (.inr ⟨j, hj, e⟩)))
        have HB := Lib.hid hb'
        have h1 : 1 ≤ len := by have := hM.1; omega
        obtain ⟨k, hk⟩ : ∃ k, k = xk % len := ⟨_, rfl⟩
        have hkl : k < len := by rw [hk]; exact Nat.mod_lt _ (by omega)
        have ht : Int.tmod (xk : Int) (len : Int) = (k : Int) := by rw [tmod_nat, hk]
        have hrk : 0 ≤ (nth T k).rate ∧ (nth T k).rate ≤ 1073741824 := hM.lok k
        have hl0 : LedAt w3 p m A T (upd (rates T) k ((nth T k).rate - 0)) := hl.congr fun j hj => by
          unfold upd
          split
          · rename_i e; subst e; simp [rates]
          · rfl
        have HL0 := Lib.hid hl0
        have HK := Lib.hid hk; have HAl := Lib.hid hA; have HLOK := Lib.hid hM.lok
        have IK : Hid (inA A (k : Int)) := ⟨by omega, by omega⟩
        clear hk hA hTl hb' hb hl hM hc3 hl0
        obtain ⟨b, off, rfl, hb, hcell⟩ := HT.out.2.2.2.2 (by omega)
        have hrc : ∀ w', Chg Non w w' → w'.cell? ⟨b, off + k * 3 + 2, none⟩ = some (.int .i64 (nth T k).rate) := fun w' h => ((hcell k hkl).chg h hb (fun h => h)).2.2
        have HRC := Lib.hid hrc; clear hrc hcell
        generalize hrate : (nth T k).rate = r at hrk HL0 HRC
        have HR := Lib.hid hrate; clear hrate
        have k0 : (0 : Int) ≤ (k : Int) := by omega
        have k1 : (k : Int) < (len : Int) := by omega
        go_wp2_with fail
        go_loopw [10, 9] (fun i s wr => ∃ (j : Nat) (a : Int), j ≤ sn ∧ i = .int .i64 j ∧ s = .int .i64 a ∧ 0 ≤ a ∧ a ≤ r ∧ Chg Non w wr ∧ LedAt wr p m A T (upd (rates T) k (r - a))) (fun i _ _ => sn - (intOf i).toNat)
        case atStart => exact ⟨0, 0, by omega, rfl, rfl, by omega, by omega, C3.out, HL0.out⟩
        case round =>
          obtain ⟨i, a, hi, rfl, rfl, ha0, ha1, hc, hl⟩ := hrel
          by_cases hlt : i < sn
          · obtain ⟨sb, soff, rfl, hsb, hscell⟩ := (HN.out.non hc).2.2.2 (by omega)
            have hsi := hscell i hlt
            have hfi := HN.out.2.2.1 i hlt
            clear hscell
            generalize f i = n at hsi hfi
            have i0 : (0 : Int) ≤ (i : Int) := by omega
            have i1 : (i : Int) < (sn : Int) := by omega
            have LO : Hid (LOk (upd (rates T) k (r - a))) := HLOK.out.upd (by omega) (by omega)
            have hval : upd (rates T) k (r - a) ((k : Int).toNat) = r - a := by rw [Int.toNat_natCast, upd, if_pos rfl]
            by_cases hle : n ≤ r - a
            · have hc2 := HRC.out
              have CC := Lib.hid hc; have LL := Lib.hid hl; clear hc hl
              go_wp2_with fail
              refine Calls.mono (spend_ok LL.out LO.out IK.out (by omega) (by rw [hval]; omega)) ?_
              rintro e w5 ⟨rfl, hl5, hc5⟩
              have hC5 : Chg Non w w5 := CC.out.next hc5 fun i hi ⟨j, hj, e⟩ => by have := HB.out i ⟨j, hj, e⟩; omega
              have hL5 : LedAt w5 p m A T (upd (rates T) k (r - (a + n))) := hl5.congr fun j hj => by
                rw [hval]
                unfold upd
                rw [Int.toNat_natCast]
                split
                · omega
                · rfl
              have y2 := hc2 w5 hC5
              have hlf : ∀ w', Chg Non w5 w' → Calls Try.prog 24 #[.pointer (some ⟨p, 0, none⟩), .int .i64 (k : Int)] w' fun e w2 => e = .returned (.int .i64 (r - (a + n))) ∧ w' = w2 := fun w' h => left_v (hL5.non h) IK.out (by rw [Int.toNat_natCast, upd, if_pos rfl])
              have HLF := Lib.hid hlf; have CC5 := Lib.hid hC5; have LL5 := Lib.hid hL5
              have hwr : IntKind.i64.wrap (a + n) = a + n := IntWalk.i64_in _ ⟨by omega, by omega⟩
              have hwr2 : IntKind.i64.wrap (r - (a + n)) = r - (a + n) := IntWalk.i64_in _ ⟨by omega, by omega⟩
              have hd : decide (a + n ≤ r) = true := decide_eq_true (by omega)
              clear hl5 hc5 hC5 hL5 hlf hval hc2 hsi
              go_wp2_with fail
              go_quiet ((go_at_call 24; with_reducible refine Calls.mono (HLF.out _ (by simp)) ?_; rintro e w2 ⟨rfl, rfl⟩; exact ⟨rfl, _, rfl⟩))
              go_wp2_with fail
              go_roundw
              case rel => exact ⟨i + 1, a + n, by omega, by go_num, by go_num, by omega, by omega, CC5.out.drewN _, LL5.out.drewN _⟩
              case measure => simp [intOf]; omega
            · have y2 := HRC.out wr hc
              have CC := Lib.hid hc; have LL := Lib.hid hl; clear hc hl
              have hlf : ∀ w', Chg Non wr w' → Calls Try.prog 24 #[.pointer (some ⟨p, 0, none⟩), .int .i64 (k : Int)] w' fun e w2 => e = .returned (.int .i64 (r - a)) ∧ w' = w2 := fun w' h => left_v (LL.out.non h) IK.out hval
              have HLF := Lib.hid hlf
              have hwr : IntKind.i64.wrap (a + n) = a + n := IntWalk.i64_in _ ⟨by omega, by omega⟩
              have hwr2 : IntKind.i64.wrap (r - a) = r - a := IntWalk.i64_in _ ⟨by omega, by omega⟩
              have hd : decide (a + n ≤ r) = false := decide_eq_false (by omega)
              clear hlf
              go_wp2_with fail
              refine Calls.mono (spend_limit LL.out LO.out IK.out (by omega) (by rw [hval]; omega)) ?_
              rintro e w' ⟨rfl, rfl⟩
              go_wp2_with fail
              go_quiet ((go_at_call 24; with_reducible refine Calls.mono (HLF.out _ (by simp)) ?_; rintro e w2 ⟨rfl, rfl⟩; exact ⟨rfl, _, rfl⟩))
              go_wp2_with fail
              go_roundw
              case rel => exact ⟨i + 1, a, by omega, by go_num, rfl, by omega, by omega, CC.out.drewN _, LL.out.drewN _⟩
              case measure => simp [intOf]; omega
          · have CC : Hid (Chg Non w wr.drew) := hc.drew
            have LD : Hid (LedAt wr.drew p m A T (upd (rates T) k (r - a))) := hl.non ((Chg.refl _ _).drew)
            have RK : Hid ((nth T ((k : Int).toNat)).rate = r) := (by rw [Int.toNat_natCast]; exact HR.out)
            have y2 := HRC.out
            clear hc hl
            go_wp2_with fail
            go_region_held3 (fun w' => Chg Non w w') (first | exact CC.out | exact C5.out | exact C6.out | skip) (first
              | (go_at_call 11; with_reducible refine Calls.mono (Tick_yes LD.out) ?_; rintro e w5 ⟨rfl, hl5, hc5⟩; have C5 := Lib.hid (Chg.next CC.out hc5 (fun i hi h => absurd (HB.out i h) (by omega))); have L5 := Lib.hid hl5; clear hl5 hc5)
              | (go_at_call 24; with_reducible refine Calls.mono (left_v L5.out IK.out RK.out) ?_; rintro e w' ⟨rfl, rfl⟩)
              | (go_at_call 11; with_reducible refine Calls.mono (Tick_yes L5.out) ?_; rintro e w6 ⟨rfl, hl5, hc5⟩; have C6 := Lib.hid (Chg.next C5.out hc5 (fun i hi h => absurd (HB.out i h) (by omega))); have L6 := Lib.hid hl5; clear hl5 hc5)
              | (go_at_call 24; with_reducible refine Calls.mono (left_v L6.out IK.out RK.out) ?_; rintro e w' ⟨rfl, rfl⟩))
            go_wp2_with fail
            go_ret
            exact ⟨rfl, C6.out.belowN⟩
      · clear hM
        have C3 := Lib.hid ((C1.out.drewN q).trans hc3); clear hc3
        go_wp2_with fail
        go_ret
        exact ⟨rfl, C3.out.belowN⟩
    · go_wp2_with fail
      refine Calls.mono (HAL.out _) ?_
      rintro e w3 ⟨rfl, hc3⟩
      have C3 := Lib.hid ((C1.out.drewN q).trans hc3); clear hc3
      go_wp2_with fail
      go_ret
      exact ⟨rfl, C3.out.belowN⟩
  · by_cases h17 : len ≤ 16
    · have h100 : ¬ sn ≤ 100 := fun h => h16 ⟨h17, h⟩
      clear h16
      go_wp2_with fail
      refine Calls.mono (HAL.out _) ?_
      rintro e w3 ⟨rfl, hc3⟩
      have C3 := Lib.hid (C1.out.trans hc3); clear hc3
      go_wp2_with fail
      go_ret
      exact ⟨rfl, C3.out.belowN⟩
    · clear h16
      go_wp2_with fail
      refine Calls.mono (HAL.out _) ?_
      rintro e w3 ⟨rfl, hc3⟩
      have C3 := Lib.hid (C1.out.trans hc3); clear hc3
      go_wp2_with fail
      go_ret
      exact ⟨rfl, C3.out.belowN⟩
end Go.Proofs.Ytdiabilcamomcaa
