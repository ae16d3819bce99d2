/- A reader, the document's reader and a book in memory: what stays apart. -/
import Derived.Test.YtjjppbfknjeddaaGreatDoorBookUse2
import Derived.Test.YtjjppbfknjeddaaGreatDoorLinRefPut
namespace Go.Proofs.YtjjppbfknjeddaaGreatDoor
open Go.RowKit Go.Shelf
set_option linter.unusedVariables false
set_option linter.unusedSimpArgs false
structure PS (w wr : World) (k r p : Nat) (ao : Option Addr) (cap : Nat) (s : List UInt8) (q : Nat) (am : Option Addr) (cm : Nat) (R : List UInt8) (L M : List Held) : Prop where
  r : RdrAt wr w.heap.size r p ao cap s
  m : MRd wr w.heap.size q am cm R
  sep : ∀ x, some x = blk am → ¬ some x = blk ao
  bk : BookB w wr k L M
section
variable {w wr w' : World} {k r p : Nat} {ao : Option Addr} {cap : Nat} {s : List UInt8} {q : Nat} {am : Option Addr} {cm : Nat} {R : List UInt8} {L M : List Held}
theorem PS.non (h : PS w wr k r p ao cap s q am cm R L M) (hc : Chg Non wr w') : PS w w' k r p ao cap s q am cm R L M :=
  ⟨h.r.keep hc, h.m.keep hc, h.sep, h.bk.non hc (fun _ _ h => h) (fun _ _ _ _ h => h) (fun _ _ _ _ h => h) (fun _ h => h.elim)⟩
theorem PS.drewN (h : PS w wr k r p ao cap s q am cm R L M) (z : Nat) : PS w (wr.drewN z) k r p ao cap s q am cm R L M := h.non ((Chg.refl _ _).drewN z)
theorem PS.pq (h : PS w wr k r p ao cap s q am cm R L M) : q ≠ p := by
  rintro rfl
  have := h.m.hp.symm.trans h.r.st.hp
  simp at this
theorem PS.rq (h : PS w wr k r p ao cap s q am cm R L M) : r ≠ q := by
  rintro rfl
  have := h.m.hp.symm.trans h.r.hr
  simp at this
/-- The reader is turned. -/
theorem PS.put (h : PS w wr k r p ao cap s q am cm R L M) {ao' : Option Addr} {cap' : Nat} {s' : List UInt8} (d' : RdrAt w' w.heap.size r p ao' cap' s') (hc : Chg (fun x => x = p ∨ some x = blk ao) wr w') (hn : ∀ x, some x = blk ao' → some x = blk ao ∨ wr.heap.size ≤ x) :
    PS w w' k r p ao' cap' s' q am cm R L M := by
  refine ⟨d', h.m.chg hc ?_ ?_, ?_, h.bk.non hc ?_ ?_ ?_ ?_⟩
  · rintro (e | e)
    · exact h.pq e
    · exact own_row h.r.st.own h.m.hp (by decide) q e rfl
  · rintro x hx (e | e)
    · exact own_row h.m.own h.r.st.hp (by decide) x hx e
    · exact h.sep x hx e
  · intro x hx e
    rcases hn x e with e | e
    · exact h.sep x hx e
    · have := (h.m.own.lt x hx).2; omega
  · rintro x hx (e | e)
    · subst e; exact BS.not_row h.r.st.hp (by decide) (by decide) (by decide) hx
    · exact BS.not_own h.r.st.own (by decide) (by decide) (by decide) x e hx
  · rintro g hg x hx (e | e)
    · obtain ⟨X, hX⟩ := h.bk.any g hg
      exact ownZ_row hX h.r.st.hp (by decide) x hx e
    · obtain ⟨X, hX⟩ := h.bk.any g hg
      exact ownZ_apart hX h.r.st.own (by decide) x hx e
  · rintro g hg x hx (e | e)
    · obtain ⟨X, hX⟩ := h.bk.anyT g hg
      exact ownZ_row hX h.r.st.hp (by decide) x hx e
    · obtain ⟨X, hX⟩ := h.bk.anyT g hg
      exact ownZ_apart hX h.r.st.own (by decide) x hx e
  · rintro x (e | e)
    · have := h.r.st.base; omega
    · exact (h.r.st.own.lt x e).1
/-- The document's reader is turned. -/
theorem PS.mput (h : PS w wr k r p ao cap s q am cm R L M) {am' : Option Addr} {cm' : Nat} {R' : List UInt8} (d' : MRd w' w.heap.size q am' cm' R') (hc : Chg (fun x => x = q ∨ some x = blk am) wr w') (hn : ∀ x, some x = blk am' → some x = blk am ∨ wr.heap.size ≤ x) :
    PS w w' k r p ao cap s q am' cm' R' L M := by
  refine ⟨h.r.chg hc ?_ ?_ ?_, d', ?_, h.bk.non hc ?_ ?_ ?_ ?_⟩
  · rintro (e | e)
    · exact h.rq e
    · exact own_row h.m.own h.r.hr (by decide) r e rfl
  · rintro (e | e)
    · exact h.pq e.symm
    · exact own_row h.m.own h.r.st.hp (by decide) p e rfl
  · rintro x hx (e | e)
    · exact own_row h.r.st.own h.m.hp (by decide) x hx e
    · exact h.sep x e hx
  · intro x hx e
    rcases hn x hx with hx | hx
    · exact h.sep x hx e
    · have := (h.r.st.own.lt x e).2; omega
  · rintro x hx (e | e)
    · subst e; exact BS.not_row h.m.hp (by decide) (by decide) (by decide) hx
    · exact BS.not_own h.m.own (by decide) (by decide) (by decide) x e hx
  · rintro g hg x hx (e | e)
    · obtain ⟨X, hX⟩ := h.bk.any g hg
      exact ownZ_row hX h.m.hp (by decide) x hx e
    · obtain ⟨X, hX⟩ := h.bk.any g hg
      exact ownZ_apart hX h.m.own (by decide) x hx e
  · rintro g hg x hx (e | e)
    · obtain ⟨X, hX⟩ := h.bk.anyT g hg
      exact ownZ_row hX h.m.hp (by decide) x hx e
    · obtain ⟨X, hX⟩ := h.bk.anyT g hg
      exact ownZ_apart hX h.m.own (by decide) x hx e
  · rintro x (e | e)
    · have := h.m.base; omega
    · exact (h.m.own.lt x e).1
/-- The book alone is turned. -/
theorem PS.book (h : PS w wr k r p ao cap s q am cm R L M) {L' M' : List Held} (hb : BookB w w' k L' M') (hc : Chg (BS wr) wr w') : PS w w' k r p ao cap s q am cm R L' M' :=
  ⟨h.r.chg hc (BS.not_row h.r.hr (by decide) (by decide) (by decide)) (BS.not_row h.r.st.hp (by decide) (by decide) (by decide)) (BS.not_own h.r.st.own (by decide) (by decide) (by decide)),
    h.m.chg hc (BS.not_row h.m.hp (by decide) (by decide) (by decide)) (BS.not_own h.m.own (by decide) (by decide) (by decide)), h.sep, hb⟩
theorem PS.lts (h : PS w wr k r p ao cap s q am cm R L M) : ∀ g ∈ L ++ M, ∀ x, some x = blkZ g.a g.c → x < wr.heap.size := by
  intro g hg x hx
  rcases List.mem_append.1 hg with hg | hg
  · obtain ⟨X, hX⟩ := h.bk.any g hg
    exact (hX.lt x hx).2
  · obtain ⟨X, hX⟩ := h.bk.anyT g hg
    exact (hX.lt x hx).2
theorem blkZ_blk {x : Nat} {a : Option Addr} {c : Nat} (h : some x = blkZ a c) : some x = blk a := by
  unfold blkZ at h
  split at h
  · cases h
  · exact h
end
end Go.Proofs.YtjjppbfknjeddaaGreatDoor
