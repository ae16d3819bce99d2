/- Rules for single operations, their worlds under names: a whole array or struct stored into a block that is known whole; 'copy' onto such a block. -/
import Derived.Test.YtbmopcmhokpchaaLib
import Derived.Laws.Tables
namespace Go.Proofs.Ytbmopcmhokpchaa
open Go.RowKit
set_option linter.unusedVariables false
def CanStore (P : Program) (ty : TypeId) (w : World) (p v : Value) : Prop := ∃ g old cells t, p = .pointer (some ⟨g, 0, none⟩) ∧ v = .agg cells ∧ w.heap[g]? = some (.cells old t (0, 0)) ∧ (P.info? ty).map (·.size) = some cells.size ∧ old.size = cells.size ∧ cells.all (·.oneCell') = true
def storedAt (w : World) (p v : Value) : World := match p, v with | .pointer (some a), .agg cells => w.setRow a.block cells | _, _ => w
theorem CanStore.mk {P : Program} {ty : TypeId} {w : World} {g : Nat} {old cells : Array Value} {t : TypeId} (hg : w.heap[g]? = some (.cells old t (0, 0))) (hi : (P.info? ty).map (·.size) = some cells.size) (ho : old.size = cells.size) (h1 : cells.all (·.oneCell') = true) :
    CanStore P ty w (.pointer (some ⟨g, 0, none⟩)) (.agg cells) := ⟨g, old, cells, t, rfl, rfl, hg, hi, ho, h1⟩
theorem run_store_row_op {P : Program} {ρ : Operand → Value} {dst : Option Tmp} {ty type : TypeId} {x y : Operand} {pos : String} {after : Array Edge} {guard : Option (Nat × Bool)} {w : World} (h : CanStore P ty w (ρ x) (ρ y)) :
    (execOp ρ { dst, op := .store ty x y, type, pos, after, guard }).run P w = .ok .skip (storedAt w (ρ x) (ρ y)) := by
  obtain ⟨g, old, cells, t, hx, hy, hg, hi, ho, h1⟩ := h
  simp only [execOp, hx, hy, storedAt, Instr.storeAt, Instr.sureAddr, Sem.run_bind, Sem.run_pure, Result.andThen_ok, run_storeVar_row w g t ty old cells hg hi ho h1]
/-- 'copy(d, s)' onto a row that is known whole, from bytes that can be read. -/
theorem run_copy_Rd {P : Program} {w : World} (dT sT ty : TypeId) {e : TypeId} (hu : P.underlying dT = some (.slice e)) (hsz : (P.info? e).map (·.size) = some 1)
    {dao : Option Addr} {dLen dCap g off : Nat} {cur : Array Value} {t : TypeId} (hdst : 0 < dLen → dao = some ⟨g, off, none⟩) (hg : w.heap[g]? = some (.cells cur t (0, 0))) (hfit : off + dLen ≤ cur.size)
    {ao : Option Addr} {n cap b : Nat} {bs : List UInt8} (hr : Rd w b ao n cap bs) {M : Nat} (hM : min n dLen = M) :
    (Builtin.copy_ #[dT, sT] ty #[.slice dao dLen dCap, .slice ao n cap]).run P w = .ok (.int .i64 (M : Int)) (w.setRow g (cur.toList.take off ++ ((bs.map bv).take dLen ++ cur.toList.drop (off + M))).toArray) := by
  subst hM
  obtain ⟨r1, r2, r3, r4, r5⟩ := hr
  have hlen : ((bs.map bv).take dLen).length = Nat.min n dLen := by simp [r1, Nat.min_comm]
  by_cases h0 : min n dLen = 0
  · have e0 : (bs.map bv).take dLen = [] := List.eq_nil_of_length_eq_zero (by rw [hlen]; exact h0)
    rw [run_copy_none (P := P) w dT sT ty e dao ao dLen dCap n cap hu hsz h0, e0, h0]
    simp only [List.nil_append, Nat.add_zero, List.take_append_drop, Array.toArray_toList]
    rw [setRow_self w g cur t (0, 0) hg]
    rfl
  · have hd' := hdst (by omega)
    obtain ⟨off', rfl, hc⟩ := r5 (by omega)
    subst hd'
    rw [run_copy_row (P := P) w dT sT ty e g off dLen dCap ⟨b, off', none⟩ n cap cur t ((bs.map bv).take dLen) hu hsz hg hlen (fun j u hj => ?_) (by rw [hlen]; have : Nat.min n dLen ≤ dLen := Nat.min_le_right _ _; omega) (fun u hu' => bvs_one bs u (List.mem_of_mem_take hu'))]
    · rw [hlen, List.append_assoc]; rfl
    · have hjl : j < Nat.min n dLen := by rw [← hlen]; exact (List.getElem?_eq_some_iff.1 hj).1
      have hjn : j < n := Nat.lt_of_lt_of_le hjl (Nat.min_le_left _ _)
      rw [Addr.add_lit, hc j hjn]
      rw [List.getElem?_take, if_pos (Nat.lt_of_lt_of_le hjl (Nat.min_le_right _ _))] at hj
      simp [List.getD, show j < bs.length by omega] at hj ⊢
      exact hj
end Go.Proofs.Ytbmopcmhokpchaa
