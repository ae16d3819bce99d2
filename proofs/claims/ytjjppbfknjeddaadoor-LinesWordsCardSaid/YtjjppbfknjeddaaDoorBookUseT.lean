/- A book of lists of texts, in use (written by gen_use.py out of BookUse.lean). -/
import Derived.Test.YtjjppbfknjeddaaDoorBookApartT
namespace Go.Proofs.YtjjppbfknjeddaaDoor
open Go.RowKit
set_option linter.unusedVariables false
set_option linter.unusedSimpArgs false
attribute [local go_sem ↓] Go.wp_at_zero Go.wp_at_succ
/-- Blocks that are a book's own. -/
def BS (w : World) (q : Nat) : Prop := ∃ cs, w.heap[q]? = some (.cells cs 39 (0, 0)) ∨ w.heap[q]? = some (.cells cs 51 (0, 0))
theorem BS.not_own {w : World} {B : Nat} {e : TypeId} {sz : Nat} {ao : Option Addr} {n cap : Nat} {xs : List Value} (h : Own w B e sz ao n cap xs) (h1 : e ≠ 39) (h2 : e ≠ 51) : ∀ q, some q = blk ao → ¬ BS w q := by
  rintro q hq ⟨cs, hc | hc⟩
  · exact own_row h hc h1 q hq rfl
  · exact own_row h hc h2 q hq rfl
theorem BS.not_ownZ {w : World} {B : Nat} {e : TypeId} {ao : Option Addr} {n cap : Nat} {xs : List Value} (h : OwnZ w B e ao n cap xs) (h1 : e ≠ 39) (h2 : e ≠ 51) : ∀ q, some q = blkZ ao cap → ¬ BS w q := by
  rintro q hq ⟨cs, hc | hc⟩
  · exact ownZ_row h hc h1 q hq rfl
  · exact ownZ_row h hc h2 q hq rfl
theorem BS.not_row {w : World} {k : Nat} {cs : Array Value} {e : TypeId} {fr : Nat × Nat} (h : w.heap[k]? = some (.cells cs e fr)) (h1 : e ≠ 39) (h2 : e ≠ 51) : ¬ BS w k := by
  rintro ⟨cs, hc | hc⟩ <;> (rw [h] at hc; simp only [Option.some.injEq, Obj.cells.injEq] at hc; first | exact h1 hc.2.1 | exact h2 hc.2.1)
structure BookB (w0 w : World) (k : Nat) (L : List Held) : Prop where
  ex : ∃ hb hc, BookAt w k L.length (.slice none 0 0) (.slice none 0 0) (.slice hb L.length hc) ∧ PartText w w0.heap.size hb hc L
  any : ∀ h ∈ L, AnyH w w0.heap.size 9 h
  no : ∀ h ∈ L, h.no ≤ 99
  n : ∀ h ∈ L, h.n ≤ 1000000000
  base : w0.heap.size ≤ k
  chg : Chg Non w0 w
theorem BookB.start {w0 w : World} {o : Obj} (hc : Chg Non w0 w) (ho : o = .cells (bookRow 0 (.slice none 0 0) (.slice none 0 0) (.slice none 0 0)) 39 (0, 0)) : BookB w0 (w.alloc o) w.heap.size [] := by
  subst ho
  exact ⟨⟨none, 0, heap_alloc_new w _, Own.nil _ _ _ _, List.Pairwise.nil⟩, by simp, by simp, by simp, hc.size, hc.alloc _⟩
theorem BookB.start2 {w0 W : World} {k : Nat} (hk : W.heap[k]? = some (.cells (bookRow 0 (.slice none 0 0) (.slice none 0 0) (.slice none 0 0)) 39 (0, 0))) (hc : Chg Non w0 W) (hb : w0.heap.size ≤ k) : BookB w0 W k [] :=
  ⟨⟨none, 0, hk, Own.nil _ _ _ _, List.Pairwise.nil⟩, by simp, by simp, by simp, hb, hc⟩
theorem BookB.non {w0 w w' : World} {k : Nat} {L : List Held} (h : BookB w0 w k L) {S : Nat → Prop} (hc : Chg S w w') (h1 : ∀ q, BS w q → ¬ S q) (h2 : ∀ g ∈ L, ∀ q, some q = blkZ g.a g.c → ¬ S q) (h3 : ∀ q, S q → w0.heap.size ≤ q) : BookB w0 w' k L := by
  obtain ⟨hb, hcc, hk, hp⟩ := h.ex
  refine ⟨⟨hb, hcc, hk.chg hc (h1 k ⟨_, .inl hk⟩), hp.row.chg hc (fun q hq => h1 q ?_), hp.sep⟩, fun g hg => (h.any g hg).chg hc (h2 g hg), h.no, h.n, h.base, h.chg.next hc (fun i hi e => by have := h3 i e; omega)⟩
  obtain ⟨_, _, _, _, h5⟩ := hp.row
  cases hb with
  | none => simp [blk] at hq
  | some a =>
    obtain ⟨g, cur, rfl, _, hg, _⟩ := h5 a rfl
    simp [blk] at hq
    subst hq
    exact ⟨_, .inr hg⟩
theorem Texts_book {w0 w : World} {k : Nat} {L : List Held} (h : BookB w0 w k L) (hl : L.length ≤ 90) {a : Option Addr} {m c : Nat} {X : List Value} (ho : OwnZ w w0.heap.size 9 a m c X) (hm : m ≤ 1000000000) (hsep : ∀ q, some q = blkZ a c → ∀ g ∈ L, ¬ some q = blkZ g.a g.c) :
    Calls Tryd.prog 8 #[.pointer (some ⟨k, 0, none⟩), .slice a m c] w fun e w' => (∃ v, e = .returned v) ∧ BookB w0 w' k (L ++ [⟨a, m, c, none, 0, 0, L.length + 1⟩]) ∧ Chg (BS w) w w' := by
  have H := Lib.hid h; have HO := Lib.hid ho; have HS := Lib.hid hsep
  clear h ho hsep
  obtain ⟨hb, hc, hk, hp⟩ := H.out.ex
  have HK := Lib.hid hk; have HP := Lib.hid hp
  clear hk hp
  go_enter Tryd.func8, Tryd.ntmps8
  go_wp2_with fail
  refine Calls.mono (keepText_any HK.out HP.out H.out.chg.size (by omega) (by omega)) ?_
  rintro e w' ⟨⟨v, rfl⟩, hb2, hc2, hk2, ho2, hc⟩
  have K2 := Lib.hid hk2; have O2 := Lib.hid ho2; have C2 := Lib.hid hc
  clear hk2 ho2 hc
  go_wp2_with fail
  go_end0
  have hcb : Chg (BS w) w w' := C2.out.mono (fun q _ hq => by
    rcases hq with rfl | hq
    · exact ⟨_, .inl HK.out⟩
    · obtain ⟨_, _, _, _, h5⟩ := HP.out.row
      cases hb with
      | none => simp [blk] at hq
      | some a =>
        obtain ⟨g, cur, rfl, _, hg, _⟩ := h5 a rfl
        simp [blk] at hq
        subst hq
        exact ⟨_, .inr hg⟩)
  have hge : ∀ q, (q = k ∨ some q = blk hb) → w0.heap.size ≤ q := by
    rintro q (rfl | hq)
    · exact H.out.base
    · exact (HP.out.row.lt q hq).1
  refine ⟨⟨_, rfl⟩, ⟨⟨hb2, hc2, by simpa using K2.out, by simpa using O2.out, HP.out.sep.snoc (fun q hq x hx => HS.out q hq x hx)⟩, fun g hg => ?_, fun g hg => ?_, fun g hg => ?_, H.out.base, H.out.chg.next C2.out (fun i hi e => by have := hge i e; omega)⟩, hcb⟩
  · rcases List.mem_append.1 hg with hg | hg
    · obtain ⟨Y, hY⟩ := H.out.any g hg
      exact ⟨Y, hY.chg hcb (BS.not_ownZ hY (by decide) (by decide))⟩
    · rw [List.mem_singleton.1 hg]
      exact ⟨X, HO.out.chg hcb (BS.not_ownZ HO.out (by decide) (by decide))⟩
  · rcases List.mem_append.1 hg with hg | hg
    · exact H.out.no g hg
    · rw [List.mem_singleton.1 hg]; show L.length + 1 ≤ 99; omega
  · rcases List.mem_append.1 hg with hg | hg
    · exact H.out.n g hg
    · rw [List.mem_singleton.1 hg]; exact hm
theorem Apart_book {w0 w : World} {k : Nat} {L : List Held} (h : BookB w0 w k L) (hl : L.length ≤ 90) :
    Calls Tryd.prog 9 #[.pointer (some ⟨k, 0, none⟩)] w fun e w' => e = .returned (.bool true) ∧ Chg Non w0 w' := by
  obtain ⟨hb, hc, hk, hp⟩ := h.ex
  refine Calls.mono (Apart_any hk hp h.any h.no h.n (by omega) h.chg.size) ?_
  rintro e w' ⟨rfl, hc2⟩
  refine ⟨rfl, h.chg.next hc2 (fun i hi e => ?_)⟩
  rcases e with ⟨g, hg, hq⟩ | hq
  · obtain ⟨X, hX⟩ := h.any g hg
    have := (hX.lt i hq).1; omega
  · have := (hp.row.lt i hq).1; omega
end Go.Proofs.YtjjppbfknjeddaaDoor
