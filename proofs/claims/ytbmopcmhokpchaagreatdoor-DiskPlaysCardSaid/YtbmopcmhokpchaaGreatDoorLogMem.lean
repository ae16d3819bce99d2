/- Memory of records: rows of bytes that are owned, or of no cell at all; rows of such rows. -/
import Derived.Test.YtbmopcmhokpchaaGreatDoorLogP
import Derived.Test.YtbmopcmhokpchaaGreatDoorOwnZ
import Derived.Test.YtbmopcmhokpchaaGreatDoorShaOf
import Derived.Test.YtbmopcmhokpchaaGreatDoorDiskLives
namespace Go.Proofs.YtbmopcmhokpchaaGreatDoor
open Go.RowKit
set_option linter.unusedVariables false
set_option linter.unusedSimpArgs false
/-- Rows, each with its own bytes, in blocks of their own. -/
structure Recs (w : World) (B : Nat) (vs : List Value) (rs : List (List UInt8)) : Prop where
  len : vs.length = rs.length
  at_ : ∀ (i : Nat) (r : List UInt8), rs[i]? = some r → ∃ a c, vs[i]? = some (.slice a r.length c) ∧ OwnZ w B 5 a r.length c (r.map bv)
  apart : vs.Pairwise (fun u v => ∀ k, some k = blkV u → ¬ some k = blkV v)
theorem Recs.nil (w : World) (B : Nat) : Recs w B [] [] := ⟨rfl, fun i r h => by simp at h, List.Pairwise.nil⟩
theorem Recs.lt {w : World} {B : Nat} {vs : List Value} {rs : List (List UInt8)} (h : Recs w B vs rs) : ∀ v ∈ vs, ∀ k, some k = blkV v → B ≤ k ∧ k < w.heap.size := by
  intro v hv k hk
  obtain ⟨i, hi, rfl⟩ := List.getElem_of_mem hv
  have hl := h.len
  obtain ⟨a, c, h1, h2⟩ := h.at_ i rs[i] (by simp)
  rw [List.getElem?_eq_getElem hi] at h1
  simp only [Option.some.injEq] at h1
  rw [h1] at hk
  exact h2.lt k hk
theorem Recs.same {w w' : World} {B : Nat} {vs : List Value} {rs : List (List UInt8)} (h : Recs w B vs rs) (hk : ∀ v ∈ vs, ∀ k, some k = blkV v → w'.heap[k]? = w.heap[k]?) : Recs w' B vs rs := by
  refine ⟨h.len, fun i r hr => ?_, h.apart⟩
  obtain ⟨a, c, h1, h2⟩ := h.at_ i r hr
  exact ⟨a, c, h1, h2.same (fun k hk' => hk _ (List.mem_of_getElem? h1) k hk')⟩
theorem Recs.chg {S : Nat → Prop} {w w' : World} {B : Nat} {vs : List Value} {rs : List (List UInt8)} (h : Recs w B vs rs) (hc : Chg S w w') (hn : ∀ v ∈ vs, ∀ k, some k = blkV v → ¬ S k) : Recs w' B vs rs :=
  h.same fun v hv k hk => hc.block k (h.lt v hv k hk).2 (hn v hv k hk)
theorem Recs.snoc {w : World} {B : Nat} {vs : List Value} {rs : List (List UInt8)} (h : Recs w B vs rs) {a : Option Addr} {n c : Nat} {r : List UInt8} (ho : OwnZ w B 5 a n c (r.map bv)) (hnew : ∀ k, some k = blkZ a c → ∀ v ∈ vs, ¬ some k = blkV v) : Recs w B (vs ++ [.slice a n c]) (rs ++ [r]) := by
  have hn : r.length = n := by have := ho.len.1; simpa using this
  refine ⟨by simp [h.len], fun i r' hr => ?_, ?_⟩
  · by_cases e : i < rs.length
    · rw [List.getElem?_append_left e] at hr
      obtain ⟨a', c', h1, h2⟩ := h.at_ i r' hr
      exact ⟨a', c', by rw [List.getElem?_append_left (by rw [h.len]; exact e)]; exact h1, h2⟩
    · rw [List.getElem?_append_right (by omega)] at hr
      obtain ⟨hlt, er⟩ := List.getElem?_eq_some_iff.1 hr
      simp only [List.length_cons, List.length_nil] at hlt
      obtain rfl : i = rs.length := by omega
      simp only [Nat.sub_self, List.getElem_cons_zero] at er
      subst er
      rw [hn]
      refine ⟨a, c, by rw [List.getElem?_append_right (by rw [h.len]; exact Nat.le_refl _), h.len, Nat.sub_self]; rfl, ho⟩
  · rw [List.pairwise_append]
    refine ⟨h.apart, List.pairwise_singleton _ _, fun u hu v hv k hk e => ?_⟩
    simp only [List.mem_singleton] at hv
    subst hv
    exact hnew k e u hu hk
/-- 32 bytes stored into a block that was made for them. -/
theorem new32 (w : World) {S : List UInt8} (hS : S.length = 32) : ∃ W, CanStore Tryz.prog 68 (w.alloc (.cells (zeroV 32) 68)) (.pointer (some ⟨w.heap.size, 0, none⟩)) (.agg (S.map bv).toArray) ∧
    storedAt (w.alloc (.cells (zeroV 32) 68)) (.pointer (some ⟨w.heap.size, 0, none⟩)) (.agg (S.map bv).toArray) = W ∧ W.heap[w.heap.size]? = some (.cells (S.map bv).toArray 68 (0, 0)) ∧ Chg Non w W ∧ w.heap.size < W.heap.size := by
  refine ⟨_, CanStore.mk (heap_alloc_new w _) (size_of Tryz.size_32 hS) (by simp [zeroV, hS]) (bvs_all _), rfl, setRow_heap _ _ _ _ _ _ (heap_alloc_new w _), ((Chg.refl _ _).alloc _).setRow (.inl (Nat.le_refl _)) _, ?_⟩
  show w.heap.size < (World.setRow _ _ _).heap.size
  simp [World.setRow]
/-- The first bytes of a row. -/
theorem Rd.head {w : World} {g : Nat} {bs : List UInt8} {e : TypeId} {fr : Nat × Nat} (hg : w.heap[g]? = some (.cells (bs.map bv).toArray e fr)) {n c : Nat} (hn : n ≤ bs.length) (hc : n ≤ c) (hm : c ≤ maxLen) : Rd w g (some ⟨g, 0, none⟩) n c (bs.take n) := by
  refine ⟨by simp; omega, hc, hm, (fun h => by cases h), fun _ => ⟨0, rfl, fun i hi => ?_⟩⟩
  rw [Nat.zero_add, cell_of_row w g i _ e fr hg]
  simp [List.getD, hi, show i < bs.length by omega]
end Go.Proofs.YtbmopcmhokpchaaGreatDoor
