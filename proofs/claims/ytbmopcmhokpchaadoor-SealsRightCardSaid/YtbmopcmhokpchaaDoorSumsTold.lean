/- SumsTold, walked: a sum's text has 64 digits, and tells the sum. -/
import Derived.Test.YtbmopcmhokpchaaDoorShaVals
import Derived.Stop.BytesEq
namespace Go.Proofs.YtbmopcmhokpchaaDoor
open Go.RowKit
set_option linter.unusedVariables false
set_option linter.unusedSimpArgs false
attribute [local go_sem ↓] Go.wp_at_zero Go.wp_at_succ
theorem equal_sums {cs ds : List UInt8} (hc : cs.length = 32) (hd : ds.length = 32) (w : World) : (Op.equalIn 10000 33 (.agg (cs.map bv).toArray) (.agg (ds.map bv).toArray)).run Tryd.prog w = .ok (cs == ds) w :=
  run_equalIn_bytes w 9998 33 5 32 Tryd.underlying33 Tryd.underlying5 (fun w => by kernel_rfl) cs ds hc hd
theorem hexd_inj : ∀ a b : Fin 16, hexd a.val = hexd b.val → a = b := by decide
theorem hexd_range : ∀ a : Fin 16, (48 ≤ (hexd a.val).toNat ∧ (hexd a.val).toNat ≤ 57) ∨ (97 ≤ (hexd a.val).toNat ∧ (hexd a.val).toNat ≤ 102) := by decide
theorem hex2_inj {c d : UInt8} (h : [hexd (c.toNat / 16), hexd (c.toNat % 16)] = [hexd (d.toNat / 16), hexd (d.toNat % 16)]) : c = d := by
  have hc := c.toNat_lt
  have hd := d.toNat_lt
  simp only [List.cons.injEq, and_true] at h
  have h1 := hexd_inj ⟨c.toNat / 16, by omega⟩ ⟨d.toNat / 16, by omega⟩ h.1
  have h2 := hexd_inj ⟨c.toNat % 16, by omega⟩ ⟨d.toNat % 16, by omega⟩ h.2
  simp only [Fin.mk.injEq] at h1 h2
  exact UInt8.toNat_inj.1 (by omega)
theorem hexs_inj : ∀ {cs ds : List UInt8}, hexs cs = hexs ds → cs = ds
  | [], [], _ => rfl
  | [], d :: ds, h => by simp [hexs] at h
  | c :: cs, [], h => by simp [hexs] at h
  | c :: cs, d :: ds, h => by
    simp only [hexs, List.flatMap_cons, List.cons_append, List.nil_append, List.cons.injEq] at h
    have e : c = d := hex2_inj (by rw [h.1, h.2.1])
    have e2 : cs = ds := hexs_inj (cs := cs) (ds := ds) h.2.2
    rw [e, e2]
theorem hexs_drop {cs : List UInt8} {k : Nat} (hk : k < cs.length) : ((hexs cs).drop (2 * k)).take 2 = [hexd ((cs.getD k 0).toNat / 16), hexd ((cs.getD k 0).toNat % 16)] := by
  have h1 := hexs_take_succ hk
  have h2 : hexs cs = hexs (cs.take (k + 1)) ++ hexs (cs.drop (k + 1)) := by
    unfold hexs; rw [← List.flatMap_append, List.take_append_drop]
  have h3 : (hexs (cs.take k)).length = 2 * k := by rw [hexs_length, List.length_take]; omega
  rw [h2, h1, List.append_assoc, List.drop_append_of_le_length (by omega), List.drop_of_length_le (by omega)]
  rfl
theorem hexs_mem {cs : List UInt8} {x : UInt8} (h : x ∈ hexs cs) : (48 ≤ (x.toNat : Int) ∧ (x.toNat : Int) ≤ 57) ∨ (97 ≤ (x.toNat : Int) ∧ (x.toNat : Int) ≤ 102) := by
  obtain ⟨c, _, hx⟩ := List.mem_flatMap.1 h
  have hc := c.toNat_lt
  simp only [List.mem_cons, List.not_mem_nil, or_false] at hx
  rcases hx with rfl | rfl
  · have := hexd_range ⟨c.toNat / 16, by omega⟩
    simp only at this
    omega
  · have := hexd_range ⟨c.toNat % 16, by omega⟩
    simp only at this
    omega
theorem run_index_text {P : Program} {t : TypeId} (ht : P.underlying t = some .string) {l : List UInt8} {k : Nat} (hk : k < l.length) (w : World) : (Instr.index t (.string ⟨l.toArray⟩) (.int .i64 k)).run P w = .ok (.int .u8 ((l.getD k 0).toNat : Int)) w := by
  simp only [Instr.index, asIntOf, Sem.run_bind, Sem.run_pure, Result.andThen_ok, run_underlying ht]
  have hb : (⟨l.toArray⟩ : ByteArray)[k]? = some (l.getD k 0) := by
    rw [getElem?_pos (⟨l.toArray⟩ : ByteArray) k (by show k < l.toArray.size; simpa using hk)]
    simp [List.getD, hk]
    rfl
  simp [hb]
theorem run_slice_text {P : Program} {t : TypeId} (ht : P.underlying t = some .string) {l : List UInt8} {i j : Nat} (hi : i ≤ j) (hj : j ≤ l.length) (w : World) :
    (Instr.slice t (.string ⟨l.toArray⟩) (some (.int .i64 (i : Int))) (some (.int .i64 (j : Int))) none).run P w = .ok (.string ⟨((l.drop i).take (j - i)).toArray⟩) w := by
  rw [run_slice_string_if w t _ .i64 .i64 (i : Int) (j : Int) ht]
  have hs : (ByteArray.size ⟨l.toArray⟩ : Nat) = l.length := by show l.toArray.size = _; simp
  rw [if_pos (by rw [hs]; omega), if_pos (by omega), Int.toNat_natCast, Int.toNat_natCast]
  congr 2
  apply ByteArray.ext
  rw [ByteArray.data_extract]
  apply Array.ext'
  simp
end Go.Proofs.YtbmopcmhokpchaaDoor
