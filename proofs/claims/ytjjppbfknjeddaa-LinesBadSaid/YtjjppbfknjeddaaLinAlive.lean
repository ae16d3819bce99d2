/- 'alive' of the lines' statements. -/
import Derived.Test.YtjjppbfknjeddaaLinWords
import Derived.Test.YtjjppbfknjeddaaLinRdr
import Derived.Lib.SlBytesConst
namespace Go.Proofs.Ytjjppbfknjeddaa
open Go.RowKit Go.Shelf
set_option linter.unusedVariables false
set_option linter.unusedSimpArgs false
attribute [local go_sem ↓] Go.wp_at_zero Go.wp_at_succ
theorem PutEnd.non {w0 w w' : World} {B r p : Nat} {ao : Option Addr} {cap : Nat} {s : List UInt8} (h0 : RdrAt w B r p ao cap s) (hc : Chg (fun k => k = p ∨ some k = blk ao) w w') (C : Chg Non w0 w) (hB : w0.heap.size ≤ B) : Chg Non w0 w' :=
  C.next hc fun i hi e => by
    rcases e with e | e
    · have := h0.st.base; omega
    · have := (h0.st.own.lt i e).1; omega
theorem PutEnd.away {w w' : World} {B r p : Nat} {ao : Option Addr} {L : List (List UInt8 × Bool)} {s' : List UInt8} {la : Option Addr} {lc : Nat} {oa : Option Addr} {oc m : Nat} {ao' : Option Addr} {cap' : Nat} (h : PutEnd w w' B r p ao L s' la lc oa oc m ao' cap') (hp : p < w.heap.size) {w2 : World} (hc : Chg (fun k => k = p ∨ some k = blk ao') w' w2) :
    Own w2 w.heap.size 9 1 la m lc (txts L) ∧ Own w2 w.heap.size 4 1 oa m oc (bols L) :=
  ⟨h.ot.chg hc (fun k hk e => e.elim (fun e => by have := (h.ot.lt k hk).1; omega) (h.d1 k hk)), h.ob.chg hc (fun k hk e => e.elim (fun e => by have := (h.ob.lt k hk).1; omega) (h.d2 k hk))⟩
theorem txts_tv (L : List (List UInt8 × Bool)) : txts L = (L.map (·.1)).map tv := by simp [txts, tv]
theorem bols_b (L : List (List UInt8 × Bool)) : bols L = (L.map (·.2)).map Value.bool := by simp [bols]
theorem SameTexts_of {w : World} {b1 b2 : Nat} {a1 a2 : Option Addr} {n1 c1 n2 c2 : Nat} {xs bs : List (List UInt8)} (h1 : RdV w b1 a1 n1 c1 (xs.map tv)) (h2 : RdV w b2 a2 n2 c2 (bs.map tv)) {b : Bool} (hb : decide (xs = bs) = b) :
    Calls Try.prog 12 #[.slice a1 n1 c1, .slice a2 n2 c2] w fun e w' => e = .returned (.bool b) ∧ Chg Non w w' := by
  subst hb
  refine Calls.mono (SameTexts_any h1 h2) ?_
  rintro e w' ⟨rfl, q, rfl⟩
  exact ⟨rfl, (Chg.refl _ _).drewN q⟩
theorem SameBools_of {w : World} {b1 b2 : Nat} {a1 a2 : Option Addr} {n1 c1 n2 c2 : Nat} {xs bs : List Bool} (h1 : RdV w b1 a1 n1 c1 (xs.map Value.bool)) (h2 : RdV w b2 a2 n2 c2 (bs.map Value.bool)) {b : Bool} (hb : decide (xs = bs) = b) :
    Calls Try.prog 13 #[.slice a1 n1 c1, .slice a2 n2 c2] w fun e w' => e = .returned (.bool b) ∧ Chg Non w w' := by
  subst hb
  refine Calls.mono (SameBools_any h1 h2) ?_
  rintro e w' ⟨rfl, q, rfl⟩
  exact ⟨rfl, (Chg.refl _ _).drewN q⟩
theorem Rd.litB {w : World} {g : Nat} {e : TypeId} {fr : Nat × Nat} {cs : Array Value} (hg : w.heap[g]? = some (.cells cs e fr)) {bs : List UInt8} (h : cs = (bs.map bv).toArray) {n : Nat} (hn : bs.length = n) (hm : n ≤ maxLen) : Rd w g (some ⟨g, 0, none⟩) n n bs := by
  subst h; exact Rd.of_block hg hn hm
theorem val1 : putB [] [97, 98] = [] := by decide +kernel
theorem rst1 : restB [] [97, 98] = [97, 98] := by decide +kernel
theorem val2 : putB [97, 98] [99, 13, 10, 100, 10, 10] = [([97, 98, 99], false), ([100], false), ([], false)] := by decide +kernel
theorem rst2 : restB [97, 98] [99, 13, 10, 100, 10, 10] = [] := by decide +kernel
theorem val3 : putB [] [97, 0, 10, 98, 13, 99, 10, 9, 10] = [([], true), ([], true), ([9], false)] := by decide +kernel
theorem rst3 : restB [] [97, 0, 10, 98, 13, 99, 10, 9, 10] = [] := by decide +kernel
theorem valW : words [32, 97, 32, 32, 98, 9, 99, 32] = [[97], [98], [99]] := by decide +kernel
theorem Words_of {l : List UInt8} {ws : List (List UInt8)} (hw : words l = ws) {n : Nat} (hn : ws.length = n) (hl : l.length ≤ 1000000000) (w : World) : Calls Try.prog 15 #[.string ⟨l.toArray⟩] w fun e w' => ∃ A, e = .returned (.slice (some ⟨A, 0, none⟩) n n) ∧
    Own w' w.heap.size 9 1 (some ⟨A, 0, none⟩) n n (ws.map tv) ∧ Chg Non w w' := by subst hw; subst hn; exact Words_any l hl w
set_option maxRecDepth 40000 in
set_option maxHeartbeats 4000000 in
theorem alive12_any (w : World) : Calls Try.prog 9 #[] w fun e w' => e = .returned (.bool true) ∧ Chg Non w w' := by
  have kc := fun (w : World) (C : Array Value) (n c : Nat) => Lib.run_convert_bytes_const (P := Try.prog) w 22 5 C n c Try.underlying22 Try.underlying5
  go_enter Try.func9, Try.ntmps9
  go_wp2_with fail
  refine Calls.mono (New_any _) ?_
  rintro e w1 ⟨rfl, hr1, hc1⟩
  have R1 := Lib.hid hr1; have C1 := Lib.hid hc1
  obtain ⟨r, hrr⟩ : ∃ r, r = w.heap.size + 1 := ⟨_, rfl⟩
  obtain ⟨p, hpp⟩ : ∃ p, p = w.heap.size := ⟨_, rfl⟩
  have Z1 := Lib.hid (show p < w1.heap.size by have := hr1.st.lt; omega)
  have PB := Lib.hid hpp
  rw [← hrr, ← hpp] at hr1
  rw [← hrr]
  have R1 := Lib.hid hr1; have C1 := Lib.hid hc1
  clear hr1 hc1 hrr hpp
  go_wp2_with fail
  refine Calls.mono (Put_rdr (b2 := w1.heap.size) (n := 2) (R1.out.keep ((Chg.refl _ _).alloc _)) (Rd.litB (bs := [97, 98]) (heap_alloc_new w1 _) (by rfl) rfl (by decide)) (fun _ => ⟨by have := Z1.out; omega, by simp [blk]⟩) (by omega) val1 rst1) ?_
  rintro e w2 ⟨la, lc, oa, oc, m, ao2, cap2, rfl, h2⟩
  have m2 : m = 0 := h2.ml.symm
  subst m2
  have R2 := Lib.hid h2.rdr
  have C2 := Lib.hid (PutEnd.non (R1.out.keep ((Chg.refl _ _).alloc _)) h2.chg (C1.out.alloc _) (by have := PB.out; omega))
  have Z2 := Lib.hid (show p < w2.heap.size by have := h2.rdr.st.lt; omega)
  clear h2
  go_wp2_with (go_at_call 14; refine Calls.mono (Left_of R2.out (z := 2) rfl) ?_; rintro e w' ⟨rfl, rfl⟩)
  refine Calls.mono (Put_rdr (b2 := w2.heap.size) (n := 6) (R2.out.keep ((Chg.refl _ _).alloc _)) (Rd.litB (bs := [99, 13, 10, 100, 10, 10]) (heap_alloc_new w2 _) (by rfl) rfl (by decide)) (fun _ => ⟨by have := Z2.out; omega, fun e => by have := (R2.out.st.own.lt _ e).2; omega⟩) (by omega) val2 rst2) ?_
  rintro e w3 ⟨lb, lbc, ob, obc, m, ao3, cap3, rfl, h3⟩
  have m3 : m = 3 := h3.ml.symm
  subst m3
  have R3 := Lib.hid h3.rdr
  have C3 := Lib.hid (PutEnd.non (R2.out.keep ((Chg.refl _ _).alloc _)) h3.chg (C2.out.alloc _) (by have := PB.out; omega))
  have Z3 := Lib.hid (show p < w3.heap.size by have := h3.rdr.st.lt; omega)
  have H3 := Lib.hid h3
  clear h3
  go_wp2_with fail
  refine Calls.mono (Put_rdr (b2 := w3.heap.size) (n := 9) (R3.out.keep ((Chg.refl _ _).alloc _)) (Rd.litB (bs := [97, 0, 10, 98, 13, 99, 10, 9, 10]) (heap_alloc_new w3 _) (by rfl) rfl (by decide)) (fun _ => ⟨by have := Z3.out; omega, fun e => by have := (R3.out.st.own.lt _ e).2; omega⟩) (by omega) val3 rst3) ?_
  rintro e w4 ⟨ld, ldc, od, odc, m, ao4, cap4, rfl, h4⟩
  have m4 : m = 3 := h4.ml.symm
  subst m4
  have R4 := Lib.hid h4.rdr
  have C4 := Lib.hid (PutEnd.non (R3.out.keep ((Chg.refl _ _).alloc _)) h4.chg (C3.out.alloc _) (by have := PB.out; omega))
  obtain ⟨q3, q3'⟩ := H3.out.away (by have := Z2.out; simp; omega) (w2 := w4) ((Chg.mono ((Chg.refl Non _).alloc _) (fun _ _ h => h.elim)).trans h4.chg)
  rw [txts_tv] at q3; rw [bols_b] at q3'
  have q4 := h4.ot; have q4' := h4.ob
  rw [txts_tv] at q4; rw [bols_b] at q4'
  have Q3 := Lib.hid q3; have Q3' := Lib.hid q3'; have Q4 := Lib.hid q4; have Q4' := Lib.hid q4'
  clear h4 q3 q3' q4 q4'
  go_wp2_with fail
  obtain ⟨g3, _, V3⟩ := RdV.of_Own Q3.out; obtain ⟨g3', _, V3'⟩ := RdV.of_Own Q3'.out; obtain ⟨g4, _, V4⟩ := RdV.of_Own Q4.out; obtain ⟨g4', _, V4'⟩ := RdV.of_Own Q4'.out
  have W3 := Lib.hid V3; have W3' := Lib.hid V3'; have W4 := Lib.hid V4; have W4' := Lib.hid V4'
  clear V3 V3' V4 V4'
  have keepV : ∀ {w' : World} {b : Nat} {ao : Option Addr} {n cap : Nat} {vs : List Value}, RdV w4 b ao n cap vs → Chg Non w4 w' → RdV w' b ao n cap vs := fun h hc => h.same fun hp => hc.block _ (by
    obtain ⟨h1, h2, h3, h4, h5⟩ := h
    obtain ⟨off, _, hk⟩ := h5 (by omega)
    have := hk 0 hp
    rw [List.getElem?_eq_getElem (by omega)] at this
    exact World.block_lt_of_cell? w4 _ this) (fun h => h)
  have KV : Hid (∀ (w' : World) (b : Nat) (ao : Option Addr) (n cap : Nat) (vs : List Value), RdV w4 b ao n cap vs → Chg Non w4 w' → RdV w' b ao n cap vs) := Lib.hid (fun _ _ _ _ _ _ => keepV)
  clear keepV
  refine Calls.mono (SameTexts_of (b := true) (KV.out _ _ _ _ _ _ W3.out ((Chg.refl _ _).alloc _)) (RdV.of_block (vs := [[97, 98, 99], [100], []].map tv) (n := 3) (heap_alloc_new w4 _) (by rfl) rfl (by decide)) (by decide)) ?_
  rintro e w5 ⟨rfl, hc5⟩
  have K5 := Lib.hid (((Chg.refl Non w4).alloc _).trans hc5); clear hc5
  go_wp2_with fail
  refine Calls.mono (SameBools_of (b := true) (KV.out _ _ _ _ _ _ W3'.out (K5.out.alloc _)) (RdV.of_block (vs := [false, false, false].map Value.bool) (n := 3) (heap_alloc_new w5 _) (by rfl) rfl (by decide)) (by decide)) ?_
  rintro e w6 ⟨rfl, hc6⟩
  have K6 := Lib.hid ((K5.out.alloc _).trans hc6); clear hc6
  go_wp2_with fail
  refine Calls.mono (SameTexts_of (b := true) (KV.out _ _ _ _ _ _ W4.out (K6.out.alloc _)) (RdV.of_block (vs := [[], [], [9]].map tv) (n := 3) (heap_alloc_new w6 _) (by rfl) rfl (by decide)) (by decide)) ?_
  rintro e w7 ⟨rfl, hc7⟩
  have K7 := Lib.hid ((K6.out.alloc _).trans hc7); clear hc7
  go_wp2_with fail
  refine Calls.mono (SameBools_of (b := true) (KV.out _ _ _ _ _ _ W4'.out (K7.out.alloc _)) (RdV.of_block (vs := [true, true, false].map Value.bool) (n := 3) (heap_alloc_new w7 _) (by rfl) rfl (by decide)) (by decide)) ?_
  rintro e w8 ⟨rfl, hc8⟩
  have K8 := Lib.hid ((K7.out.alloc _).trans hc8); clear hc8
  go_wp2_with fail
  refine Calls.mono (Left_of (R4.out.keep K8.out) (z := 0) rfl) ?_
  rintro e w' ⟨rfl, rfl⟩
  go_wp2_with fail
  refine Calls.mono (Words_of valW (n := 3) rfl (by decide) _) ?_
  rintro e w9 ⟨A, rfl, ho9, hc9⟩
  obtain ⟨g9, _, V9⟩ := RdV.of_Own ho9
  have W9 := Lib.hid V9
  have K9 := Lib.hid (K8.out.trans hc9)
  have L9 : Hid (g9 < w9.heap.size) := Lib.hid (by
    obtain ⟨h1, h2, h3, h4, h5⟩ := V9
    obtain ⟨off, _, hk⟩ := h5 (by omega)
    have := hk 0 (by omega)
    rw [List.getElem?_eq_getElem (by simp)] at this
    exact World.block_lt_of_cell? w9 _ this)
  clear ho9 V9 hc9
  go_wp2_with fail
  refine Calls.mono (SameTexts_of (b := true) (W9.out.same fun _ => Below.heap_alloc _ _ _ L9.out) (RdV.of_block (vs := [[97], [98], [99]].map tv) (n := 3) (heap_alloc_new w9 _) (by rfl) rfl (by decide)) (by decide)) ?_
  rintro e wA ⟨rfl, hcA⟩
  have KA := Lib.hid (C4.out.trans ((K9.out.alloc _).trans hcA)); clear hcA
  go_wp2_with fail
  go_ret
  exact ⟨rfl, KA.out⟩
end Go.Proofs.Ytjjppbfknjeddaa
