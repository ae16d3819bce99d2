/- 'append' onto a row that is owned, or of no cell at all. -/
import Derived.Test.YtjjppbfknjeddaaGreatDoorOwnZ
namespace Go.Proofs.YtjjppbfknjeddaaGreatDoor
open Go.RowKit
set_option linter.unusedVariables false
set_option linter.unusedSimpArgs false
theorem run_append_OwnZ {P : Program} {w : World} {B : Nat} {e : TypeId} {ao : Option Addr} {n cap : Nat} {xs : List Value} {x : Value} {m : Nat} {news : List Value} {by_ : Nat}
    (t tx ty : TypeId) (i : TypeInfo) (z : Value) (ht : P.underlying t = some (.slice e)) (hi : P.info? e = some i) (hz : i.zero = some z) (hsz : i.size = 1) (hzs : z.cells.size = 1) (hby : i.bytes = by_)
    (hown : OwnZ w B e ao n cap xs) (hs : Src P 1 tx x m news w) (h63 : n + m ≤ maxLen) (hb : (n + m) * by_ ≤ 140737488355328) (hB : B ≤ w.heap.size) (hm : 0 < m) :
    ∃ ao' cap' w', (Builtin.append_ #[t, tx] ty #[.slice ao n cap, x]).run P w = .ok (.slice ao' (n + m) cap') w' ∧ Own w' B e 1 ao' (n + m) cap' (xs ++ news) ∧
      Chg (fun k => some k = blkZ ao cap ∧ n + m ≤ cap) w w' ∧ ((n + m ≤ cap ∧ cap' = cap ∧ ao' = ao) ∨ (cap < n + m ∧ blk ao' = some w.heap.size)) := by
  have hlen := hown.len
  by_cases hroom : n + m ≤ cap
  · rcases hown.case with ⟨hp, ho⟩ | ⟨rfl, rfl, rfl⟩
    · obtain ⟨ao', cap', w', h1, h2, h3, h4, h5⟩ := run_append_Own (P := P) t tx ty i z ht hi hz hsz hzs hby ho hs h63 hb hB
      exact ⟨ao', cap', w', h1, h2, h3.mono (fun k _ h => ⟨by rw [blkZ_pos hp]; exact h.1, h.2.1⟩), .inl ⟨hroom, h5 hroom⟩⟩
    · omega
  · have hge := grownCap_ge w (n + m) cap e
    have hcm : grownCap w (n + m) cap e ≤ maxLen := grownCap_le_maxLen w (n + m) cap e h63
    have hold : (Builtin.firstCells i.size n (.slice ao n cap)).run P w.drew = .ok xs.toArray w.drew := by
      rcases hown.case with ⟨hp, h1, h2, h3, h4, h5⟩ | ⟨rfl, rfl, rfl⟩
      · cases ao with
        | none => have := h4 rfl; omega
        | some a =>
          obtain ⟨g, cur, rfl, hBg, hg, hcs, htake⟩ := h5 a rfl
          refine run_firstCells_some _ _ _ _ _ _ _ (by rw [hsz]; exact h1) fun j u hu => ?_
          have hadd : (⟨g, 0, none⟩ : Addr).add j = ⟨g, j, none⟩ := by unfold Addr.add; split <;> simp_all
          rw [hadd, cell_of_row w.drew g j cur e (0, 0) hg]
          rw [← htake, List.getElem?_take] at hu
          split at hu
          · simpa using hu
          · cases hu
      · cases ao with
        | none => exact run_firstCells_none _ _ _ _ _
        | some a => exact run_firstCells_some _ _ _ _ _ _ _ (by simp) fun j u hu => by simp at hu
    have h63' : ((n + m : Nat) : Int) ≤ 9223372036854775807 := by simp only [maxLen] at h63; omega
    have hr := run_append_grow_src (P := P) w t tx ty e i z ht hi hz ao n cap xs hold x m news (by rw [hsz]; exact hs) (by omega) h63' (by rw [hby]; exact growslice_fits (by omega) hb)
    have hnl := hs.newsLen
    have hll : (xs ++ news).length = n + m := by rw [List.length_append, hlen.1]; omega
    refine ⟨_, _, _, hr, ⟨by omega, hge, hcm, (fun h => by cases h), fun a ha => ?_⟩, ((Chg.refl _ w).drew).alloc _, .inr ⟨by omega, rfl⟩⟩
    cases ha
    refine ⟨w.heap.size, _, rfl, hB, heap_alloc_new w.drew _, ?_, ?_⟩
    · simp only [Array.size_append, List.size_toArray, hll, size_zeroCells, hzs, Nat.mul_one]
      omega
    · simp only [Array.toList_append]
      rw [List.take_append_of_le_length (by omega), List.take_of_length_le (by omega)]
theorem wpList_append_OwnZ {P : Program} {ops : Array Oper} {rest : List Oper} {o : Oper} {a : Act} {Q : Exit → Act → World → Prop} {w : World} (hgd : o.guard = none) (s y : Operand) (t tx : TypeId)
    (ho : o.op = .call { callee := .builtin .append, args := #[s, y], argTypes := #[t, tx] })
    (B : Nat) (e : TypeId) (by_ : Nat) (i : TypeInfo) (z : Value) (ht : P.underlying t = some (.slice e)) (hi : P.info? e = some i) (hz : i.zero = some z) (hsz : i.size = 1) (hzs : z.cells.size = 1) (hby : i.bytes = by_)
    (ao : Option Addr) (n cap : Nat) (xs : List Value) (hv : a.eval s = .slice ao n cap) (hown : OwnZ w B e ao n cap xs)
    (x : Value) (m : Nat) (news : List Value) (hx : a.eval y = x) (hs : Src P 1 tx x m news w) (h63 : n + m ≤ maxLen) (hb : (n + m) * by_ ≤ 140737488355328) (hB : B ≤ w.heap.size) (hm : 0 < m)
    (h : ∀ ao' cap' w', Own w' B e 1 ao' (n + m) cap' (xs ++ news) → Chg (fun k => some k = blkZ ao cap ∧ n + m ≤ cap) w w' → ((n + m ≤ cap ∧ cap' = cap ∧ ao' = ao) ∨ (cap < n + m ∧ blk ao' = some w.heap.size)) →
      wpList P ops Q rest (a.put o.dst (.slice ao' (n + m) cap')) w') : wpList P ops Q (o :: rest) a w :=
  wpList_plain hgd fun _ hK => by
    obtain ⟨ao', cap', w', hr, h1, h2, h3⟩ := run_append_OwnZ (P := P) t tx o.type i z ht hi hz hsz hzs hby hown hs h63 hb hB hm
    unfold Oper.wp execOp
    simp only [ho, resolve, invoke, builtin, Sem.run_bind, Sem.run_pure, Result.andThen_ok, List.map_toArray, List.map_cons, List.map_nil, hv, hx, hr]
    exact hK _ _ (h ao' cap' w' h1 h2 h3)
end Go.Proofs.YtjjppbfknjeddaaGreatDoor
