/- The chapter's log lives. -/
import Derived.Test.YtbmopcmhokpchaaGreatDoorLogOpen
import Derived.Lib.SlBytesConst
namespace Go.Proofs.YtbmopcmhokpchaaGreatDoor
open Go.RowKit
set_option linter.unusedVariables false
set_option linter.unusedSimpArgs false
attribute [local go_sem ↓] Go.wp_at_zero Go.wp_at_succ
theorem Open_nil {w : World} : Calls Tryz.prog 16 #[.pointer none] w fun e w' => e = .returned (.tuple #[.slice none 0 0, .int .i64 2]) ∧ Chg Non w w' := by
  go_enter Tryz.func16, Tryz.ntmps16
  go_wp2_with (go_at_call 15; refine (Append_nil).mono ?_; rintro e w' ⟨rfl, rfl⟩)
  have hc : ((w.alloc (.cells #[.slice none 0 0] 49)).setCell ⟨w.heap.size, 0, none⟩ (.slice none 0 0)).cell? ⟨w.heap.size, 0, none⟩ = some (.slice none 0 0) := World.cell?_setCell_same' _ _ _ (by rw [cell_of_row _ _ 0 _ _ _ (heap_alloc_new w _)]; rfl)
  refine bodyPost_ret (v := .tuple #[.slice none 0 0, .int .i64 2]) (by simp [results, Tryz.f16, go_sem, hc]) rfl ?_
  exact ⟨rfl, (Chg.refl Non w).alloc _⟩
theorem Recs.str {w : World} {B : Nat} {vs : List Value} {rs : List (List UInt8)} (h : Recs w B vs rs) {i : Nat} {r : List UInt8} (hi : rs[i]? = some r) :
    ∃ a c, vs[i]? = some (.slice a r.length c) ∧ (convert 22 9 (.slice a r.length c)).run Tryz.prog w = .ok (.string ⟨r.toArray⟩) w := by
  obtain ⟨a, c, h1, h2⟩ := h.at_ i r hi
  obtain ⟨g, _, hr⟩ := h2.rd
  exact ⟨a, c, h1, hr.string Tryz.underlying22 Tryz.underlying5 Tryz.underlying9⟩
theorem OwnZ.at_ {w : World} {B : Nat} {e : TypeId} {ao : Option Addr} {n cap : Nat} {xs : List Value} (h : OwnZ w B e ao n cap xs) (hn : 0 < n) : ∃ g, ao = some ⟨g, 0, none⟩ ∧ g < w.heap.size ∧ ∀ j, j < n → w.cell? ⟨g, j, none⟩ = xs[j]? := by
  have hl := h.len
  rcases h.case with ⟨hp, h⟩ | ⟨rfl, _⟩
  · obtain ⟨g, e1, _, e3, _, e4, _⟩ := h.form hp
    exact ⟨g, e1, e3, fun j hj => e4 j (by omega)⟩
  · omega
theorem Add_lit {w : World} {B p : Nat} {ao : Option Addr} {cap size sure : Nat} {bs : List UInt8} (h : DiskAt w B p ao cap size sure bs) (cs : List UInt8) {C : Array Value} {fr : Nat × Nat} (hC : C = (cs.map bv).toArray) {n : Nat} (hl : cs.length = n) (hn : bs.length + (n + 12) ≤ size) :
    Calls Tryz.prog 32 #[.pointer (some ⟨p, 0, none⟩), .slice (some ⟨w.heap.size, 0, none⟩) n n] (w.alloc (.cells C 5 fr)) fun e w' => e = .returned (.int .i64 0) ∧ ∃ ao' cap', DiskTo w w' B p ao ao' cap' size (bs.length + (n + 12)) (bs ++ frameB cs) := by
  subst hC
  have hm := h.max
  have hd : DiskAt (w.alloc (.cells (cs.map bv).toArray 5 fr)) B p ao cap size sure bs := h.chg (S := Non) ((Chg.refl _ w).alloc _) (fun h => h) (fun _ _ h => h)
  refine Calls.mono (Add_any hd (Rd.of_block (heap_alloc_new w _) hl (by unfold maxLen; omega)) (fun e => by
    rcases e with e | e
    · have := h.lt; omega
    · have := (h.own.lt _ e).2; omega) (by omega)) ?_
  rintro e w' ⟨f, ao', cap', rfl, ⟨_, rfl, hd⟩ | ⟨h1, _⟩⟩
  · exact ⟨rfl, ao', cap', hd.pre ((Chg.refl Non w).alloc _)⟩
  · omega
theorem val_f0 : (frameB [])[4]? = some 223 ∧ (frameB [])[11]? = some 219 := by decide +kernel
set_option maxRecDepth 20000 in
set_option maxHeartbeats 1000000 in
theorem lives20_any (w : World) : Calls Tryz.prog 6 #[] w fun e w' => e = .returned (.bool true) ∧ Chg Non w w' := by
  have kc := fun (w : World) (C : Array Value) (n c : Nat) => Lib.run_convert_bytes_const (P := Tryz.prog) w 22 5 C n c Tryz.underlying22 Tryz.underlying5
  go_enter Tryz.func6, Tryz.ntmps6
  go_wp2_with fail
  refine Calls.mono (Frame_any (Rd.nil w 0) (by omega)) ?_
  rintro e w1 ⟨a1, rfl, ho1, hc1⟩
  obtain ⟨g1, rfl, _, hg1, _, hcell, _⟩ := ho1.form (by omega)
  have c4 : w1.cell? ⟨g1, 4, none⟩ = some (.int .u8 223) := by rw [hcell 4 (by omega), List.getElem?_map, val_f0.1]; rfl
  have c11 : w1.cell? ⟨g1, 11, none⟩ = some (.int .u8 219) := by rw [hcell 11 (by omega), List.getElem?_map, val_f0.2]; rfl
  have CC4 := Lib.hid c4; have CC11 := Lib.hid c11; have C1 := Lib.hid hc1; have G1 := Lib.hid hg1
  clear hcell ho1 hc1 c4 c11 hg1
  go_wp2_with fail
  refine Calls.mono (New_of (size := 1000) (by rfl) (by omega)) ?_
  rintro e w2 ⟨rfl, hd2, hc2⟩
  have H2 := Lib.hid hd2
  have C2 := Lib.hid (C1.out.trans hc2)
  have c4 : w2.cell? ⟨g1, 4, none⟩ = some (.int .u8 223) := (hc2.cell (p := ⟨g1, 4, none⟩) G1.out (fun h => h)).trans CC4.out
  have c11 : w2.cell? ⟨g1, 11, none⟩ = some (.int .u8 219) := (hc2.cell (p := ⟨g1, 11, none⟩) G1.out (fun h => h)).trans CC11.out
  clear hd2 hc2
  go_wp2_with fail
  refine Calls.mono (Add_lit H2.out [97] (by rfl) (by rfl) (by decide)) ?_
  rintro e w3 ⟨rfl, a3, p3, hd3⟩
  have H3 := Lib.hid hd3.at_
  have C3 := Lib.hid (H2.out.next C1.out.size C2.out hd3.chg)
  clear hd3 c4 c11
  go_wp2_with fail
  refine Calls.mono (Add_lit H3.out [98] (by rfl) (by rfl) (by decide)) ?_
  rintro e w4 ⟨rfl, a4, p4, hd4⟩
  have H4 := Lib.hid hd4.at_
  have C4 := Lib.hid (H3.out.next C1.out.size C3.out hd4.chg)
  clear hd4
  go_wp2_with fail
  have hfl : [] ++ frameB [97] ++ frameB [98] = flat [[97], [98]] := by simp [flat]
  refine Calls.mono (Open_any H4.out (by rw [hfl]; exact framed_flat (by simp)) (by rw [hfl]; decide)) ?_
  rintro e w5 ⟨oa, vs, a5, p5, s5, rfl, hz, hr, hs, hd, hs1, hs2⟩
  rw [show ([[97], [98]] : List (List UInt8)).length = 2 from rfl] at hz hs ⊢
  obtain ⟨g5, rfl, hg5, hcell⟩ := hz.at_ (by omega)
  obtain ⟨b0, d0, v0, s0⟩ := hr.str (i := 0) (r := [97]) rfl
  obtain ⟨b1, d1, v1, s1⟩ := hr.str (i := 1) (r := [98]) rfl
  have C5 := Lib.hid (H4.out.next C1.out.size C4.out hd.chg)
  have H5 := Lib.hid hd.at_
  have R5 := Lib.hid hr; have HC5 := Lib.hid (And.intro hg5 hcell); have S5 := Lib.hid (hs1 rfl)
  clear hz hr hs hd hs1 hs2 hcell hg5 d0 v0 s0 d1 v1 s1 b0 b1 hfl
  go_wp2_with fail
  refine Calls.mono Open_nil ?_
  rintro e w6 ⟨rfl, hc6⟩
  have H6 := Lib.hid (H5.out.chg hc6 (fun h => h) (fun _ _ h => h))
  have R6 := R5.out.chg hc6 (fun _ _ _ _ h => h)
  have C6 := Lib.hid (C5.out.trans hc6)
  obtain ⟨b0, d0, v0, s0⟩ := R6.str (i := 0) (r := [97]) rfl
  obtain ⟨b1, d1, v1, s1⟩ := R6.str (i := 1) (r := [98]) rfl
  have k0 : w6.cell? ⟨g5, 0, none⟩ = some (.slice b0 1 d0) := (hc6.cell (p := ⟨g5, 0, none⟩) HC5.out.1 (fun h => h)).trans ((HC5.out.2 0 (by omega)).trans v0)
  have k1 : w6.cell? ⟨g5, 1, none⟩ = some (.slice b1 1 d1) := (hc6.cell (p := ⟨g5, 1, none⟩) HC5.out.1 (fun h => h)).trans ((HC5.out.2 1 (by omega)).trans v1)
  have z0 : (convert 22 9 (.slice b0 1 d0)).run Tryz.prog w6 = .ok (.string ⟨#[97]⟩) w6 := s0
  have z1 : (convert 22 9 (.slice b1 1 d1)).run Tryz.prog w6 = .ok (.string ⟨#[98]⟩) w6 := s1
  clear hc6 R6 v0 v1 s0 s1
  go_wp2_with (first
    | (go_at_call 19; refine Calls.mono (Sure_of H6.out (S := 26) (by rw [S5.out]; rfl)) ?_; rintro e w' ⟨rfl, rfl⟩)
    | (go_at_call 32; refine Calls.mono Add_nil ?_; rintro e w' ⟨rfl, rfl⟩))
  go_ret
  exact ⟨rfl, C6.out⟩
end Go.Proofs.YtbmopcmhokpchaaGreatDoor
