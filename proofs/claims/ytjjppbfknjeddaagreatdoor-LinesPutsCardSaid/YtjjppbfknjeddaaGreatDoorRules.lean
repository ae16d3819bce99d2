/- Rules for single operations, their worlds under names: a whole array or struct stored into a block that is known whole; 'copy' onto such a block. -/
import Derived.Test.YtjjppbfknjeddaaGreatDoorLib
import Derived.Laws.Tables
import Derived.Lib.AppendZeros
namespace Go.Proofs.YtjjppbfknjeddaaGreatDoor
open Go.RowKit
set_option linter.unusedVariables false
def CanStore (P : Program) (ty : TypeId) (w : World) (p v : Value) : Prop := ∃ g old cells t, p = .pointer (some ⟨g, 0, none⟩) ∧ v = .agg cells ∧ w.heap[g]? = some (.cells old t (0, 0)) ∧ (P.info? ty).map (·.size) = some cells.size ∧ old.size = cells.size ∧ cells.all (·.oneCell') = true
def storedAt (w : World) (p v : Value) : World := match p, v with | .pointer (some a), .agg cells => w.setRow a.block cells | _, _ => w
theorem CanStore.mk {P : Program} {ty : TypeId} {w : World} {g : Nat} {old cells : Array Value} {t : TypeId} (hg : w.heap[g]? = some (.cells old t (0, 0))) (hi : (P.info? ty).map (·.size) = some cells.size) (ho : old.size = cells.size) (h1 : cells.all (·.oneCell') = true) :
    CanStore P ty w (.pointer (some ⟨g, 0, none⟩)) (.agg cells) := ⟨g, old, cells, t, rfl, rfl, hg, hi, ho, h1⟩
theorem run_store_row_op {P : Program} {ρ : Operand → Value} {dst : Option Tmp} {ty type : TypeId} {x y : Operand} {pos : String} {after : Array Edge} {guard : Option (Nat × Bool)} {w : World} (h : CanStore P ty w (ρ x) (ρ y)) :
    (execOp ρ { dst, op := .store ty x y, type, pos, after, guard }).run P w = .ok .skip (storedAt w (ρ x) (ρ y)) := by
  obtain ⟨g, old, cells, t, hx, hy, hg, hi, ho, h1⟩ := h
  simp only [execOp, hx, hy, storedAt, Instr.storeAt, Instr.sureAddr, Sem.run_bind, Sem.run_pure, Result.andThen_ok, run_storeVar_row w g t ty old cells hg hi ho h1]
/-- 'copy(d, s)' onto a row that is known whole, from bytes that can be read. -/
theorem run_copy_Rd {P : Program} {w : World} (dT sT ty : TypeId) {e : TypeId} (hu : P.underlying dT = some (.slice e)) (hsz : (P.info? e).map (·.size) = some 1)
    {dao : Option Addr} {dLen dCap g off : Nat} {cur : Array Value} {t : TypeId} (hdst : 0 < dLen → dao = some ⟨g, off, none⟩) (hg : w.heap[g]? = some (.cells cur t (0, 0))) (hfit : off + dLen ≤ cur.size)
    {ao : Option Addr} {n cap b : Nat} {bs : List UInt8} (hr : Rd w b ao n cap bs) {M : Nat} (hM : min n dLen = M) :
    (Builtin.copy_ #[dT, sT] ty #[.slice dao dLen dCap, .slice ao n cap]).run P w = .ok (.int .i64 (M : Int)) (w.setRow g (cur.toList.take off ++ ((bs.map bv).take dLen ++ cur.toList.drop (off + M))).toArray) := by
  subst hM
  obtain ⟨r1, r2, r3, r4, r5⟩ := hr
  have hlen : ((bs.map bv).take dLen).length = Nat.min n dLen := by simp [r1, Nat.min_comm]
  by_cases h0 : min n dLen = 0
  · have e0 : (bs.map bv).take dLen = [] := List.eq_nil_of_length_eq_zero (by rw [hlen]; exact h0)
    rw [run_copy_none (P := P) w dT sT ty e dao ao dLen dCap n cap hu hsz h0, e0, h0]
    simp only [List.nil_append, Nat.add_zero, List.take_append_drop, Array.toArray_toList]
    rw [setRow_self w g cur t (0, 0) hg]
    rfl
  · have hd' := hdst (by omega)
    obtain ⟨off', rfl, hc⟩ := r5 (by omega)
    subst hd'
    rw [run_copy_row (P := P) w dT sT ty e g off dLen dCap ⟨b, off', none⟩ n cap cur t ((bs.map bv).take dLen) hu hsz hg hlen (fun j u hj => ?_) (by rw [hlen]; have : Nat.min n dLen ≤ dLen := Nat.min_le_right _ _; omega) (fun u hu' => bvs_one bs u (List.mem_of_mem_take hu'))]
    · rw [hlen, List.append_assoc]; rfl
    · have hjl : j < Nat.min n dLen := by rw [← hlen]; exact (List.getElem?_eq_some_iff.1 hj).1
      have hjn : j < n := Nat.lt_of_lt_of_le hjl (Nat.min_le_left _ _)
      rw [Addr.add_lit, hc j hjn]
      rw [List.getElem?_take, if_pos (Nat.lt_of_lt_of_le hjl (Nat.min_le_right _ _))] at hj
      simp [List.getD, show j < bs.length by omega] at hj ⊢
      exact hj
/-- 'append' at a step of a drawn region, its run known. -/
theorem step_append_run {P : Program} {ops : Array Oper} {o : Oper} {a : Act} {K : Act → World → Prop} {Q : Exit → Act → World → Prop} {E : Prop} {w : World} (hgd : o.guard = none) (s y : Operand) (t tx : TypeId)
    (ho : o.op = .call { callee := .builtin .append, args := #[s, y], argTypes := #[t, tx] }) (vs vx : Value) (hs : a.eval s = vs) (hx : a.eval y = vx)
    (v' : Value) (w' : World) (hr : (Builtin.append_ #[t, tx] o.type #[vs, vx]).run P w = .ok v' w') (h : K (a.put o.dst v') w') : if Region.wanted o (yielded ops a.tmps) = true then Oper.wp P o a w K Q else E := by
  have hw : Region.wanted o (yielded ops a.tmps) = true := by simp [Region.wanted, hgd]
  rw [if_pos hw]
  exact Lib.wp_append_run w s y t tx ho vs vx hs hx v' w' hr h
theorem zeroCells_one (z : Value) (n : Nat) : Builtin.zeroCells #[z] n = (List.replicate n z).toArray := by
  apply Array.ext'
  apply List.ext_getElem?
  intro i
  simp only [Builtin.zeroCells, Array.toList_map, List.getElem?_map, Array.toList_range, List.getElem?_replicate]
  by_cases h : i < n
  · simp [h, Nat.mod_one]
  · simp [h]
/-- 'append(s, make([]byte, m)...)' onto bytes that the call owns. -/
theorem run_append_zeros {P : Program} {w : World} {B : Nat} {e : TypeId} {ao : Option Addr} {n cap : Nat} {xs : List Value} (t tn ty : TypeId) {i : TypeInfo} {kn : IntKind} (ht : P.underlying t = some (.slice e)) (htn : P.underlying tn = some (.int kn)) (hi : P.info? e = some i)
    (hz : i.zero = some (.int .u8 0)) (hsz : i.size = 1) (hby : i.bytes = 1) (hown : Own w B e 1 ao n cap xs) (k : IntKind) (m : Nat) (hm : n + m ≤ 1000000) (hB : B ≤ w.heap.size) :
    ∃ ao' cap' w', (Builtin.append_ #[t, tn] ty #[.slice ao n cap, .int k (m : Int)]).run P w = .ok (.slice ao' (n + m) cap') w' ∧ Own w' B e 1 ao' (n + m) cap' (xs ++ List.replicate m (.int .u8 0)) ∧
      Chg (fun k => some k = blk ao) w w' := by
  have hown0 := hown
  obtain ⟨h1, h2, h3, h4, h5⟩ := hown
  rw [Nat.mul_one] at h1
  have hw : IntKind.i64.wrap (m : Int) = m := IntWalk.i64_in _ ⟨by omega, by omega⟩
  have hneg : ¬ ((m : Int) < 0) := by omega
  have h48i : ¬ (281474976710656 < (m : Int)) := by omega
  have hlen : (xs ++ List.replicate m (Value.int .u8 0)).length = (n + m) * 1 := by simp [h1]
  by_cases hroom : n + m ≤ cap
  · by_cases hm0 : m = 0
    · subst hm0
      refine ⟨ao, cap, w, ?_, by simpa using hown0, Chg.refl _ _⟩
      have hw0 : IntKind.i64.wrap 0 = 0 := by decide
      cases ao with
      | none => simp [Builtin.append_, run_underlying ht, run_underlying htn, sizeOf, typeInfo, hi, hby, asInt, asIntOf, hw0, h2]
      | some a => simp [Builtin.append_, run_underlying ht, run_underlying htn, sizeOf, typeInfo, hi, hby, asInt, asIntOf, hw0, h2, storeCells]
    · cases ao with
      | none =>
        have := h4 rfl
        omega
      | some a =>
        obtain ⟨g, cur, rfl, hBg, hg, hcs, htake⟩ := h5 a rfl
        rw [Nat.mul_one] at hcs htake
        have hst := run_storeCells_at P g n e (List.replicate m (Value.int .u8 0)) 0 cur w hg (by simp; omega) (fun v hv => by rw [List.eq_of_mem_replicate hv]; rfl)
        simp only [Nat.add_zero] at hst
        have hm1 : ¬ (m * 1 = 0) := by omega
        refine ⟨some ⟨g, 0, none⟩, cap, w.setRow g (cur.toList.take n ++ List.replicate m (Value.int .u8 0) ++ cur.toList.drop (n + (List.replicate m (Value.int .u8 0)).length)).toArray, ?_, ⟨hlen, hroom, h3, (fun h => by cases h), fun a ha => ?_⟩, Chg.setRow (S := fun k => some k = blk (some ⟨g, 0, none⟩)) (Chg.refl _ w) (.inr rfl) _⟩
        · simp [Builtin.append_, run_underlying ht, run_underlying htn, sizeOf, typeInfo, zeroValue, hi, hz, hsz, hby, asInt, asIntOf, hw, hneg, h48i, hm0, hroom, zeroCells_one, Addr.add_lit, hst, Value.cells]
        · cases ha
          refine ⟨g, _, rfl, hBg, setRow_heap _ _ _ _ _ _ hg, by simp; omega, ?_⟩
          rw [Nat.mul_one, List.toList_toArray, htake, List.append_assoc, ← List.append_assoc]
          exact List.take_left' (by simp [h1])
  · have hm0 : m ≠ 0 := by omega
    have hm1 : ¬ (m * 1 = 0) := by omega
    have hge := grownCap_ge w (n + m) cap e
    have hcm : grownCap w (n + m) cap e ≤ maxLen := grownCap_le_maxLen w (n + m) cap e (by unfold maxLen; omega)
    have hold : (Builtin.firstCells i.size n (.slice ao n cap)).run P w.drew = .ok xs.toArray w.drew := by
      cases ao with
      | none =>
        have := h4 rfl
        obtain rfl : n = 0 := by omega
        have hx : xs = [] := List.eq_nil_of_length_eq_zero h1
        subst hx
        exact run_firstCells_none _ _ _ _ _
      | some a =>
        obtain ⟨g, cur, rfl, hBg, hg, hcs, htake⟩ := h5 a rfl
        rw [hsz]
        refine run_firstCells_some _ _ _ _ _ _ _ (by omega) fun j u hu => ?_
        have hadd : (⟨g, 0, none⟩ : Addr).add j = ⟨g, j, none⟩ := by unfold Addr.add; split <;> simp_all
        rw [hadd, cell_of_row w.drew g j cur e (0, 0) hg]
        rw [← htake, List.getElem?_take] at hu
        split at hu
        · simpa using hu
        · cases hu
    have h63 : ¬ (9223372036854775807 < ((n : Int) + (m : Int))) := by omega
    have hfit : ¬ (281474976710656 < Builtin.nextslicecap (n + m) cap) := by
      have h := growslice_fits (bytes := 1) (need := n + m) (old := cap) (by omega) (by omega)
      omega
    refine ⟨some ⟨w.heap.size, 0, none⟩, grownCap w (n + m) cap e, w.drew.alloc (.cells ((xs ++ List.replicate m (Value.int .u8 0)).toArray ++ Builtin.zeroCells #[.int .u8 0] (grownCap w (n + m) cap e - (n + m))) e), ?_, ⟨hlen, hge, hcm, (fun h => by cases h), fun a ha => ?_⟩, ?_⟩
    · rw [hsz] at hold
      simp [Builtin.append_, run_underlying ht, run_underlying htn, sizeOf, typeInfo, zeroValue, hi, hz, hsz, hby, asInt, asIntOf, hw, hneg, h48i, hroom, hm0, h63, hfit, Question.forced, hold, newRow, grownCap, zeroCells_one, Value.cells]
      congr 2
      apply Array.ext'
      simp only [Array.toList_append, Array.toList_replicate, List.append_assoc, List.replicate_append_replicate]
    · cases ha
      refine ⟨w.heap.size, _, rfl, hB, heap_alloc_new w.drew _, ?_, ?_⟩
      · simp [size_zeroCells, h1]; omega
      · rw [Nat.mul_one, Array.toList_append]
        exact List.take_left' (by simp [h1])
    · exact ((Chg.refl _ w).drew).alloc _
end Go.Proofs.YtjjppbfknjeddaaGreatDoor
