/- Seals, walked: what is sealed; Make; the document's digits and Make. -/
import Derived.Test.YtbmopcmhokpchaaDoorSealNum
import Derived.Test.YtbmopcmhokpchaaDoorShaVals
import Derived.Laws.IdiomStrings
import Derived.Lib.ItoaLen
namespace Go.Proofs.YtbmopcmhokpchaaDoor
open Go.RowKit Go.Lib Go.Shelf
set_option linter.unusedVariables false
set_option linter.unusedSimpArgs false
attribute [local go_sem ↓] Go.wp_at_zero Go.wp_at_succ
theorem Tryd.extraJ : Builder.Extra Tryd.prog Tryd.lays156_ren := {
  sizeBuilder := by kernel_rfl
  liesBuilder := by kernel_rfl
  t5 := by kernel_rfl
  a5 := fun _ => by kernel_rfl
  z5 := fun _ => by kernel_rfl
  v5 := fun _ => by kernel_rfl
  infoByte := by kernel_rfl
  cellsByte := by kernel_rfl
  sizeByte := by kernel_rfl
  neB5 := by decide }
theorem ba_size (l : List UInt8) : (⟨l.toArray⟩ : ByteArray).size = l.length := by show l.toArray.size = _; simp
theorem ba_list (s : ByteArray) : ∃ l : List UInt8, s = ⟨l.toArray⟩ := ⟨s.data.toList, by apply ByteArray.ext; simp⟩
theorem ba_append (a b : List UInt8) : (⟨a.toArray⟩ : ByteArray) ++ (⟨b.toArray⟩ : ByteArray) = ⟨(a ++ b).toArray⟩ := by
  apply ByteArray.ext
  rw [ByteArray.data_append]
  simp
theorem bytesRow_get {l : List UInt8} {cap j : Nat} (hj : j < l.length) : (bytesRow ⟨l.toArray⟩ cap)[j]? = some (bv (l.getD j 0)) := by
  unfold bytesRow
  rw [Array.getElem?_append_left (by simpa using hj)]
  simp [List.getD, hj, bv]
/-- '[]byte(s)': new memory. -/
theorem conv_bytes (w : World) (s : List UInt8) (hs : s.length ≤ maxLen) : ∃ cap W, (convert 9 29 (.string ⟨s.toArray⟩)).run Tryd.prog w = .ok (.slice (some ⟨w.heap.size, 0, none⟩) s.length cap) W ∧
    Rd W w.heap.size (some ⟨w.heap.size, 0, none⟩) s.length cap s ∧ Chg Non w W ∧ (∀ j, j < s.length → W.frozen? ⟨w.heap.size, j, none⟩ = false) := by
  have h := run_bytes_of_string w 9 29 5 ⟨s.toArray⟩ Tryd.underlying9 Tryd.underlying29 Tryd.underlying5
  rw [ba_size] at h
  have hge := grownCap_ge w s.length 0 5
  have hle := grownCap_le_maxLen w s.length 0 5 hs
  have hb : ∀ o, (w.drew.alloc o).heap[w.heap.size]? = some o := fun o => heap_alloc_new w.drew o
  refine ⟨_, _, h, ⟨rfl, hge, hle, (fun h => by cases h), fun _ => ⟨0, rfl, fun i hi => ?_⟩⟩, ((Chg.refl Non w).drew).alloc _, fun j hj => ?_⟩
  · rw [Nat.zero_add, cell_of_row _ w.heap.size i _ _ _ (hb _)]
    exact bytesRow_get hi
  · unfold World.frozen?
    rw [show (⟨w.heap.size, j, none⟩ : Addr).block = w.heap.size from rfl, hb]
    have : j < (bytesRow ⟨s.toArray⟩ (grownCap w s.length 0 5)).size := by simp [bytesRow]; omega
    simp
    omega
theorem join_two {w : World} {g : Nat} {t : TypeId} {fr : Nat × Nat} {a b : List UInt8} (hg : w.heap[g]? = some (.cells #[.string ⟨a.toArray⟩, .string ⟨b.toArray⟩] t fr)) (ha : a.length ≤ 1000000) (hb : b.length ≤ 1000000) :
    Calls Tryd.prog 21 #[.slice (some ⟨g, 0, none⟩) 2 2, .string { data := #[0] }] w fun e w' => e = .returned (.string ⟨(a ++ 0 :: b).toArray⟩) ∧ Chg Non w w' := by
  have e : (Lib.join ([(⟨a.toArray⟩ : ByteArray), ⟨b.toArray⟩].map (·.data.toList)) (⟨#[0]⟩ : ByteArray).data.toList) = a ++ 0 :: b := by
    simp [Lib.join, List.intercalate]
  have h := Any.strings_Join Tryd.lays156 Tryd.extraJ g 0 2 [⟨a.toArray⟩, ⟨b.toArray⟩] ⟨#[0]⟩ w (fun j x hx => by
    rw [Nat.zero_add, cell_of_row w g j _ _ _ hg]
    match j, hx with
    | 0, hx => simp at hx; subst hx; rfl
    | 1, hx => simp at hx; subst hx; rfl
    | j + 2, hx => simp at hx) (Array.getElem?_eq_some_iff.1 hg).1 (by simp) (by simp) (by rw [e]; simp; omega)
  rw [e] at h
  refine Calls.mono h ?_
  rintro e w' ⟨rfl, h⟩
  exact ⟨rfl, Chg.of_below h⟩
set_option maxRecDepth 20000 in
theorem sealed_any {w : World} {g : Nat} {t : TypeId} {fr : Nat × Nat} {a b : List UInt8} (hg : w.heap[g]? = some (.cells #[.string ⟨a.toArray⟩, .string ⟨b.toArray⟩] t fr)) (ha : a.length ≤ 1000000) (hb : b.length ≤ 1000000) :
    Calls Tryd.prog 14 #[.slice (some ⟨g, 0, none⟩) 2 2] w fun e w' => ∃ g' n cap, e = .returned (.slice (some ⟨g', 0, none⟩) n cap) ∧ n ≤ 2000001 ∧ Rd w' g' (some ⟨g', 0, none⟩) n cap (a ++ 0 :: b) ∧ Chg Non w w' := by
  have hl : (a ++ 0 :: b).length ≤ 2000001 := by simp; omega
  have HJ := Lib.hid (join_two hg ha hb)
  clear hg
  generalize a ++ 0 :: b = s at hl HJ
  go_enter Tryd.func14, Tryd.ntmps14
  go_wp2_with (go_at_call 21; refine Calls.mono HJ.out ?_; rintro e w1 ⟨rfl, hc1⟩; obtain ⟨cap, W2, hcv, hR2, hC2, _⟩ := conv_bytes w1 s (by unfold maxLen; omega); have R2 := Lib.hid hR2; have C2 := Lib.hid (hc1.trans hC2); clear hc1 hR2 hC2)
  go_ret
  exact ⟨_, _, cap, rfl, hl, R2.out, C2.out⟩
theorem tab_chg {w w' : World} {name : String} {k : IntKind} {zs : List Int} (h : Lib.TabIs Tryd.prog w name k zs) (hc : Chg Non w w') : Lib.TabIs Tryd.prog w' name k zs := by
  unfold Lib.TabIs World.var? at *
  cases hg : Tryd.prog.globalNamed name with
  | none => simp [hg] at h
  | some g =>
    simp only [hg, Option.bind_some] at h ⊢
    have hlt : g < w.heap.size := by
      rcases Nat.lt_or_ge g w.heap.size with h' | h'
      · exact h'
      · rw [Array.getElem?_eq_none h'] at h; simp at h
    rw [hc.block g hlt (fun h => h)]
    exact h
/-- What a seal is. -/
def sealOf (k nm : List UInt8) (u : Nat) : List UInt8 := hexs (hmac k (nm ++ 0 :: Lib.decDigits u))
theorem sealOf_length (k nm : List UInt8) (u : Nat) : (sealOf k nm u).length = 64 := by rw [sealOf, hexs_length, hmac_length]
theorem decDigits_le {u : Nat} (hu : u < 18446744073709551616) : (Lib.decDigits u).length ≤ 20 := by
  rw [Lib.decDigits_length]; exact Lib.nDigits_le20 u hu
set_option maxRecDepth 20000 in
set_option maxHeartbeats 1000000 in
theorem Make_any {k nm : List UInt8} {u : Nat} (hk : k.length ≤ 1000000) (hn : nm.length ≤ 1000000) (hu : u < 18446744073709551616) (w : World) (htab : Lib.TabIs Tryd.prog w "internal/strconv.uint64pow10" .u64 Lib.pow10Tab) :
    Calls Tryd.prog 7 #[.string ⟨k.toArray⟩, .string ⟨nm.toArray⟩, .int .u64 (u : Int)] w fun e w' => e = .returned (.string ⟨(sealOf k nm u).toArray⟩) ∧ Chg Non w w' := by
  have HT := Lib.hid htab; clear htab
  have dl := decDigits_le hu
  obtain ⟨cap, W, hcv, hR, hC, _⟩ := conv_bytes w k (by unfold maxLen; omega)
  have R := Lib.hid hR; have C := Lib.hid hC
  have HTW : Hid (Lib.TabIs Tryd.prog W "internal/strconv.uint64pow10" .u64 Lib.pow10Tab) := Lib.hid (tab_chg HT.out C.out)
  obtain ⟨ds, hds⟩ : ∃ ds, ds = Lib.decDigits u := ⟨_, rfl⟩
  have DS := Lib.hid hds
  rw [← hds] at dl
  have DL := Lib.hid dl
  clear hR hC hds dl
  go_enter Tryd.func7, Tryd.ntmps7
  go_wp2_with (first
    | (go_at_call 15; refine Calls.mono (FormatUint_any hu _ HTW.out) ?_; rw [← DS.out]; rintro e w1 ⟨rfl, hc1⟩; have C1 := Lib.hid (C.out.trans hc1); have R1 := Lib.hid (R.out.chg hc1 (fun h => h)); clear hc1 hcv)
    | (go_at_call 14; (refine Calls.mono (sealed_any (heap_alloc_new w1 _) hn (by have := DL.out; omega)) ?_; rintro e w2 ⟨g2, n2, cap2, rfl, hn2, hr2, hc2⟩; have C2 := Lib.hid (C1.out.trans (((Chg.refl _ _).alloc _).trans hc2)); have R2 := Lib.hid (R1.out.chg (((Chg.refl Non _).alloc _).trans hc2) (fun h => h)); have Q2 := Lib.hid hr2; clear hc2 hr2))
    | (go_at_call 13; refine Calls.mono (Keyed_any R2.out (by omega) Q2.out (by omega)) ?_; rintro e w3 ⟨rfl, hc3⟩; have C3 := Lib.hid (C2.out.trans hc3); clear hc3)
    | (go_at_call 12; refine Calls.mono (Text_any _ (hmac_length _ _) _) ?_; rintro e w4 ⟨rfl, hc4⟩; have C4 := Lib.hid (C3.out.trans hc4); clear hc4))
  go_ret
  refine ⟨?_, C4.out⟩
  rw [sealOf, ← DS.out]
  rfl
end Go.Proofs.YtbmopcmhokpchaaDoor
