/- A book of lists of bools and lists of texts, in use. -/
import Derived.Test.YtjjppbfknjeddaaGreatDoorBookApart2
namespace Go.Proofs.YtjjppbfknjeddaaGreatDoor
open Go.RowKit
set_option linter.unusedVariables false
set_option linter.unusedSimpArgs false
attribute [local go_sem ↓] Go.wp_at_zero Go.wp_at_succ
/-- Blocks that are a book's own. -/
def BS (w : World) (q : Nat) : Prop := ∃ cs, w.heap[q]? = some (.cells cs 41 (0, 0)) ∨ w.heap[q]? = some (.cells cs 76 (0, 0)) ∨ w.heap[q]? = some (.cells cs 74 (0, 0))
theorem BS.not_own {w : World} {B : Nat} {e : TypeId} {sz : Nat} {ao : Option Addr} {n cap : Nat} {xs : List Value} (h : Own w B e sz ao n cap xs) (h1 : e ≠ 41) (h2 : e ≠ 76) (h3 : e ≠ 74) : ∀ q, some q = blk ao → ¬ BS w q := by
  rintro q hq ⟨cs, hc | hc | hc⟩
  · exact own_row h hc h1 q hq rfl
  · exact own_row h hc h2 q hq rfl
  · exact own_row h hc h3 q hq rfl
theorem BS.not_ownZ {w : World} {B : Nat} {e : TypeId} {ao : Option Addr} {n cap : Nat} {xs : List Value} (h : OwnZ w B e ao n cap xs) (h1 : e ≠ 41) (h2 : e ≠ 76) (h3 : e ≠ 74) : ∀ q, some q = blkZ ao cap → ¬ BS w q := by
  rintro q hq ⟨cs, hc | hc | hc⟩
  · exact ownZ_row h hc h1 q hq rfl
  · exact ownZ_row h hc h2 q hq rfl
  · exact ownZ_row h hc h3 q hq rfl
theorem BS.not_row {w : World} {k : Nat} {cs : Array Value} {e : TypeId} {fr : Nat × Nat} (h : w.heap[k]? = some (.cells cs e fr)) (h1 : e ≠ 41) (h2 : e ≠ 76) (h3 : e ≠ 74) : ¬ BS w k := by
  rintro ⟨cs, hc | hc | hc⟩ <;> (rw [h] at hc; simp only [Option.some.injEq, Obj.cells.injEq] at hc; first | exact h1 hc.2.1 | exact h2 hc.2.1 | exact h3 hc.2.1)
structure BookB (w0 w : World) (k : Nat) (L M : List Held) : Prop where
  ex : ∃ hb hc tb tc, BookAt w k (L.length + M.length) (.slice none 0 0) (.slice hb L.length hc) (.slice tb M.length tc) ∧ PartBool w w0.heap.size hb hc L ∧ PartText w w0.heap.size tb tc M
  any : ∀ h ∈ L, AnyH w w0.heap.size 4 h
  anyT : ∀ h ∈ M, AnyH w w0.heap.size 9 h
  no : ∀ h ∈ L, h.no ≤ 99
  noT : ∀ h ∈ M, h.no ≤ 99
  n : ∀ h ∈ L, h.n ≤ 1000000000
  nT : ∀ h ∈ M, h.n ≤ 1000000000
  base : w0.heap.size ≤ k
  chg : Chg Non w0 w
theorem BookB.start2 {w0 W : World} {k : Nat} (hk : W.heap[k]? = some (.cells (bookRow 0 (.slice none 0 0) (.slice none 0 0) (.slice none 0 0)) 41 (0, 0))) (hc : Chg Non w0 W) (hb : w0.heap.size ≤ k) : BookB w0 W k [] [] :=
  ⟨⟨none, 0, none, 0, hk, ⟨Own.nil _ _ _ _, List.Pairwise.nil⟩, ⟨Own.nil _ _ _ _, List.Pairwise.nil⟩⟩, by simp, by simp, by simp, by simp, by simp, by simp, hb, hc⟩
theorem BookB.non {w0 w w' : World} {k : Nat} {L M : List Held} (h : BookB w0 w k L M) {S : Nat → Prop} (hc : Chg S w w') (h1 : ∀ q, BS w q → ¬ S q) (h2 : ∀ g ∈ L, ∀ q, some q = blkZ g.a g.c → ¬ S q) (h2' : ∀ g ∈ M, ∀ q, some q = blkZ g.a g.c → ¬ S q) (h3 : ∀ q, S q → w0.heap.size ≤ q) : BookB w0 w' k L M := by
  obtain ⟨hb, hcc, tb, tc, hk, hp, hp'⟩ := h.ex
  refine ⟨⟨hb, hcc, tb, tc, hk.chg hc (h1 k ⟨_, .inl hk⟩), ⟨hp.row.chg hc (fun q hq => h1 q ?_), hp.sep⟩, ⟨hp'.row.chg hc (fun q hq => h1 q ?_), hp'.sep⟩⟩, fun g hg => (h.any g hg).chg hc (h2 g hg), fun g hg => (h.anyT g hg).chg hc (h2' g hg), h.no, h.noT, h.n, h.nT, h.base, h.chg.next hc (fun i hi e => by have := h3 i e; omega)⟩
  · obtain ⟨cs, hcs⟩ := own_cells hp.row hq
    exact ⟨cs, .inr (.inl hcs)⟩
  · obtain ⟨cs, hcs⟩ := own_cells hp'.row hq
    exact ⟨cs, .inr (.inr hcs)⟩
theorem Texts_book {w0 w : World} {k : Nat} {L M : List Held} (h : BookB w0 w k L M) (hl : L.length + M.length ≤ 90) {a : Option Addr} {m c : Nat} {X : List Value} (ho : OwnZ w w0.heap.size 9 a m c X) (hm : m ≤ 1000000000) (hsep : ∀ q, some q = blkZ a c → ∀ g ∈ M, ¬ some q = blkZ g.a g.c) :
    Calls Tryz.prog 15 #[.pointer (some ⟨k, 0, none⟩), .slice a m c] w fun e w' => (∃ v, e = .returned v) ∧ BookB w0 w' k L (M ++ [⟨a, m, c, none, 0, 0, L.length + M.length + 1⟩]) ∧ Chg (BS w) w w' := by
  have H := Lib.hid h; have HO := Lib.hid ho; have HS := Lib.hid hsep
  clear h ho hsep
  obtain ⟨hb, hc, tb, tc, hk, hp, hp'⟩ := H.out.ex
  have HK := Lib.hid hk; have HP := Lib.hid hp; have HP' := Lib.hid hp'
  clear hk hp hp'
  go_enter Tryz.func15, Tryz.ntmps15
  go_wp2_with fail
  refine Calls.mono (keepText_any HK.out HP'.out H.out.chg.size (by omega) (by omega)) ?_
  rintro e w' ⟨⟨v, rfl⟩, hb2, hc2, hk2, ho2, hc3⟩
  have K2 := Lib.hid hk2; have O2 := Lib.hid ho2; have C2 := Lib.hid hc3
  clear hk2 ho2 hc3
  go_wp2_with fail
  go_end0
  have hcb : Chg (BS w) w w' := C2.out.mono (fun q _ hq => by
    rcases hq with rfl | hq
    · exact ⟨_, .inl HK.out⟩
    · obtain ⟨cs, hcs⟩ := own_cells HP'.out.row hq
      exact ⟨cs, .inr (.inr hcs)⟩)
  have hge : ∀ q, (q = k ∨ some q = blk tb) → w0.heap.size ≤ q := by
    rintro q (rfl | hq)
    · exact H.out.base
    · exact (HP'.out.row.lt q hq).1
  have hne : ∀ q, some q = blk hb → ¬ (q = k ∨ some q = blk tb) := by
    rintro q hq (rfl | e)
    · exact own_row HP.out.row HK.out (by decide) q hq rfl
    · exact own_apart HP.out.row HP'.out.row (by decide) q hq e
  refine ⟨⟨_, rfl⟩, ⟨⟨hb, hc, hb2, hc2, ?_, ⟨HP.out.row.chg C2.out hne, HP.out.sep⟩, by simpa using O2.out, HP'.out.sep.snoc (fun q hq x hx => HS.out q hq x hx)⟩, fun g hg => ?_, fun g hg => ?_, H.out.no, fun g hg => ?_, H.out.n, fun g hg => ?_, H.out.base, H.out.chg.next C2.out (fun i hi e => by have := hge i e; omega)⟩, hcb⟩
  · have := K2.out
    rw [List.length_append, List.length_singleton, ← Nat.add_assoc]
    exact this
  · obtain ⟨Y, hY⟩ := H.out.any g hg
    exact ⟨Y, hY.chg hcb (BS.not_ownZ hY (by decide) (by decide) (by decide))⟩
  · rcases List.mem_append.1 hg with hg | hg
    · obtain ⟨Y, hY⟩ := H.out.anyT g hg
      exact ⟨Y, hY.chg hcb (BS.not_ownZ hY (by decide) (by decide) (by decide))⟩
    · rw [List.mem_singleton.1 hg]
      exact ⟨X, HO.out.chg hcb (BS.not_ownZ HO.out (by decide) (by decide) (by decide))⟩
  · rcases List.mem_append.1 hg with hg | hg
    · exact H.out.noT g hg
    · rw [List.mem_singleton.1 hg]; show L.length + M.length + 1 ≤ 99; omega
  · rcases List.mem_append.1 hg with hg | hg
    · exact H.out.nT g hg
    · rw [List.mem_singleton.1 hg]; exact hm
theorem Bools_book {w0 w : World} {k : Nat} {L M : List Held} (h : BookB w0 w k L M) (hl : L.length + M.length ≤ 90) {a : Option Addr} {m c : Nat} {X : List Value} (ho : OwnZ w w0.heap.size 4 a m c X) (hm : m ≤ 1000000000) (hsep : ∀ q, some q = blkZ a c → ∀ g ∈ L, ¬ some q = blkZ g.a g.c) :
    Calls Tryz.prog 16 #[.pointer (some ⟨k, 0, none⟩), .slice a m c] w fun e w' => (∃ v, e = .returned v) ∧ BookB w0 w' k (L ++ [⟨a, m, c, none, 0, 0, L.length + M.length + 1⟩]) M ∧ Chg (BS w) w w' := by
  have H := Lib.hid h; have HO := Lib.hid ho; have HS := Lib.hid hsep
  clear h ho hsep
  obtain ⟨hb, hc, tb, tc, hk, hp, hp'⟩ := H.out.ex
  have HK := Lib.hid hk; have HP := Lib.hid hp; have HP' := Lib.hid hp'
  clear hk hp hp'
  go_enter Tryz.func16, Tryz.ntmps16
  go_wp2_with fail
  refine Calls.mono (keepBool_any HK.out HP.out H.out.chg.size (by omega) (by omega)) ?_
  rintro e w' ⟨⟨v, rfl⟩, hb2, hc2, hk2, ho2, hc3⟩
  have K2 := Lib.hid hk2; have O2 := Lib.hid ho2; have C2 := Lib.hid hc3
  clear hk2 ho2 hc3
  go_wp2_with fail
  go_end0
  have hcb : Chg (BS w) w w' := C2.out.mono (fun q _ hq => by
    rcases hq with rfl | hq
    · exact ⟨_, .inl HK.out⟩
    · obtain ⟨cs, hcs⟩ := own_cells HP.out.row hq
      exact ⟨cs, .inr (.inl hcs)⟩)
  have hge : ∀ q, (q = k ∨ some q = blk hb) → w0.heap.size ≤ q := by
    rintro q (rfl | hq)
    · exact H.out.base
    · exact (HP.out.row.lt q hq).1
  have hne : ∀ q, some q = blk tb → ¬ (q = k ∨ some q = blk hb) := by
    rintro q hq (rfl | e)
    · exact own_row HP'.out.row HK.out (by decide) q hq rfl
    · exact own_apart HP'.out.row HP.out.row (by decide) q hq e
  refine ⟨⟨_, rfl⟩, ⟨⟨hb2, hc2, tb, tc, ?_, ⟨by simpa using O2.out, HP.out.sep.snoc (fun q hq x hx => HS.out q hq x hx)⟩, ⟨HP'.out.row.chg C2.out hne, HP'.out.sep⟩⟩, fun g hg => ?_, fun g hg => ?_, fun g hg => ?_, H.out.noT, fun g hg => ?_, H.out.nT, H.out.base, H.out.chg.next C2.out (fun i hi e => by have := hge i e; omega)⟩, hcb⟩
  · have := K2.out
    rw [List.length_append, List.length_singleton, Nat.add_right_comm]
    exact this
  · rcases List.mem_append.1 hg with hg | hg
    · obtain ⟨Y, hY⟩ := H.out.any g hg
      exact ⟨Y, hY.chg hcb (BS.not_ownZ hY (by decide) (by decide) (by decide))⟩
    · rw [List.mem_singleton.1 hg]
      exact ⟨X, HO.out.chg hcb (BS.not_ownZ HO.out (by decide) (by decide) (by decide))⟩
  · obtain ⟨Y, hY⟩ := H.out.anyT g hg
    exact ⟨Y, hY.chg hcb (BS.not_ownZ hY (by decide) (by decide) (by decide))⟩
  · rcases List.mem_append.1 hg with hg | hg
    · exact H.out.no g hg
    · rw [List.mem_singleton.1 hg]; show L.length + M.length + 1 ≤ 99; omega
  · rcases List.mem_append.1 hg with hg | hg
    · exact H.out.n g hg
    · rw [List.mem_singleton.1 hg]; exact hm
theorem Apart_book {w0 w : World} {k : Nat} {L M : List Held} (h : BookB w0 w k L M) (hl : L.length + M.length ≤ 90) :
    Calls Tryz.prog 17 #[.pointer (some ⟨k, 0, none⟩)] w fun e w' => e = .returned (.bool true) ∧ Chg Non w0 w' ∧ ∀ (z : Nat) (cs : Array Value), w.heap[z]? = some (.cells cs 57 (0, 0)) → w'.heap[z]? = some (.cells cs 57 (0, 0)) := by
  obtain ⟨hb, hc, tb, tc, hk, hp, hp'⟩ := h.ex
  refine Calls.mono (Apart_any hk hp hp' h.any h.anyT h.no h.noT h.n h.nT (by omega) (by omega) h.chg.size) ?_
  rintro e w' ⟨rfl, hc2⟩
  refine ⟨rfl, h.chg.next hc2 (fun i hi e => ?_), fun z cs hz => ?_⟩
  · rcases e with ⟨g, hg, hq⟩ | ⟨g, hg, hq⟩ | e | e
    · obtain ⟨X, hX⟩ := h.any g hg; have := (hX.lt i hq).1; omega
    · obtain ⟨X, hX⟩ := h.anyT g hg; have := (hX.lt i hq).1; omega
    · have := (hp.row.lt i e).1; omega
    · have := (hp'.row.lt i e).1; omega
  · refine (hc2.block z (Array.getElem?_eq_some_iff.1 hz).1 ?_).trans hz
    rintro (⟨g, hg, hq⟩ | ⟨g, hg, hq⟩ | e | e)
    · obtain ⟨X, hX⟩ := h.any g hg; exact ownZ_row hX hz (by decide) z hq rfl
    · obtain ⟨X, hX⟩ := h.anyT g hg; exact ownZ_row hX hz (by decide) z hq rfl
    · exact own_row hp.row hz (by decide) z e rfl
    · exact own_row hp'.row hz (by decide) z e rfl
end Go.Proofs.YtjjppbfknjeddaaGreatDoor
