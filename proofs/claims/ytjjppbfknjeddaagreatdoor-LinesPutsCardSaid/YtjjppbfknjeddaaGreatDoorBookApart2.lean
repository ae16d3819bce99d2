/- Apart: no list shares memory with another one; bools and texts (written by gen_apart2.py). -/
import Derived.Test.YtjjppbfknjeddaaGreatDoorBookNone2
import Derived.Test.YtjjppbfknjeddaaGreatDoorBookBool
import Derived.Test.YtjjppbfknjeddaaGreatDoorBookText
namespace Go.Proofs.YtjjppbfknjeddaaGreatDoor
open Go.RowKit
set_option linter.unusedVariables false
set_option linter.unusedSimpArgs false
attribute [local go_sem ↓] Go.wp_at_zero Go.wp_at_succ
/-- Blocks of two types. -/
def TyS (w : World) (e1 e2 : TypeId) (S : Nat → Prop) : Prop := ∀ q, S q → ∃ cs, w.heap[q]? = some (.cells cs e1 (0, 0)) ∨ w.heap[q]? = some (.cells cs e2 (0, 0))
theorem TyS.own {w : World} {e1 e2 : TypeId} {S : Nat → Prop} (hS : TyS w e1 e2 S) {B : Nat} {e : TypeId} {sz : Nat} {ao : Option Addr} {n cap : Nat} {xs : List Value} (h : Own w B e sz ao n cap xs) (h1 : e ≠ e1) (h2 : e ≠ e2) : ∀ q, some q = blk ao → ¬ S q := by
  intro q hq hs
  obtain ⟨cs, hc | hc⟩ := hS q hs
  · exact own_row h hc h1 q hq rfl
  · exact own_row h hc h2 q hq rfl
theorem TyS.ownZ {w : World} {e1 e2 : TypeId} {S : Nat → Prop} (hS : TyS w e1 e2 S) {B : Nat} {e : TypeId} {ao : Option Addr} {n cap : Nat} {xs : List Value} (h : OwnZ w B e ao n cap xs) (h1 : e ≠ e1) (h2 : e ≠ e2) : ∀ q, some q = blkZ ao cap → ¬ S q := by
  intro q hq hs
  obtain ⟨cs, hc | hc⟩ := hS q hs
  · exact ownZ_row h hc h1 q hq rfl
  · exact ownZ_row h hc h2 q hq rfl
theorem TyS.row {w : World} {e1 e2 : TypeId} {S : Nat → Prop} (hS : TyS w e1 e2 S) {k : Nat} {cs : Array Value} {e : TypeId} (h : w.heap[k]? = some (.cells cs e (0, 0))) (h1 : e ≠ e1) (h2 : e ≠ e2) : ¬ S k := by
  intro hs
  obtain ⟨cs, hc | hc⟩ := hS k hs <;> (rw [h] at hc; simp only [Option.some.injEq, Obj.cells.injEq] at hc; first | exact h1 hc.2.1 | exact h2 hc.2.1)
theorem own_cells {w : World} {B : Nat} {e : TypeId} {sz : Nat} {ao : Option Addr} {n cap : Nat} {xs : List Value} (h : Own w B e sz ao n cap xs) {q : Nat} (hq : some q = blk ao) : ∃ cs, w.heap[q]? = some (.cells cs e (0, 0)) := by
  obtain ⟨_, _, _, _, h5⟩ := h
  cases ao with
  | none => simp [blk] at hq
  | some a =>
    obtain ⟨g, cur, rfl, _, hg, _⟩ := h5 a rfl
    simp [blk] at hq
    subst hq
    exact ⟨_, hg⟩
theorem ownZ_cells {w : World} {B : Nat} {e : TypeId} {ao : Option Addr} {n cap : Nat} {xs : List Value} (h : OwnZ w B e ao n cap xs) {q : Nat} (hq : some q = blkZ ao cap) : ∃ cs, w.heap[q]? = some (.cells cs e (0, 0)) := by
  rcases h.case with ⟨hp, h⟩ | ⟨_, rfl, _⟩
  · rw [blkZ_pos hp] at hq; exact own_cells h hq
  · rw [blkZ_zero] at hq; cases hq
theorem TyS.items {w : World} {B : Nat} {e e2 : TypeId} {L : List Held} (h : ∀ g ∈ L, AnyH w B e g) : TyS w e e2 (hBlk L) := by
  rintro q ⟨g, hg, hq⟩
  obtain ⟨X, hX⟩ := h g hg
  obtain ⟨cs, hc⟩ := ownZ_cells hX hq
  exact ⟨cs, .inl hc⟩
theorem TyS.part {w : World} {B B2 : Nat} {e e2 : TypeId} {L : List Held} {hb : Option Addr} {n hc : Nat} {X : List Value} (h : ∀ g ∈ L, AnyH w B e g) (hp : Own w B2 e2 3 hb n hc X) : TyS w e e2 (fun q => hBlk L q ∨ some q = blk hb) := by
  rintro q (hq | hq)
  · exact TyS.items h q hq
  · obtain ⟨cs, hc⟩ := own_cells hp hq
    exact ⟨cs, .inr hc⟩
set_option maxRecDepth 40000 in
set_option maxHeartbeats 8000000 in
theorem Apart_any {w : World} {B k n : Nat} {hb hb' : Option Addr} {hc hc' : Nat} {L M : List Held} (hk : BookAt w k n (.slice none 0 0) (.slice hb L.length hc) (.slice hb' M.length hc')) (hp : PartBool w B hb hc L) (hp' : PartText w B hb' hc' M) (hA : ∀ h ∈ L, AnyH w B 4 h) (hA' : ∀ h ∈ M, AnyH w B 9 h)
    (hn : ∀ h ∈ L, h.no ≤ 99) (hn' : ∀ h ∈ M, h.no ≤ 99) (hg : ∀ h ∈ L, h.n ≤ 1000000000) (hg' : ∀ h ∈ M, h.n ≤ 1000000000) (hl : L.length ≤ 1000000) (hl' : M.length ≤ 1000000) (hB : B ≤ w.heap.size) :
    Calls Tryz.prog 17 #[.pointer (some ⟨k, 0, none⟩)] w fun e w' => e = .returned (.bool true) ∧ Chg (fun q => hBlk L q ∨ hBlk M q ∨ some q = blk hb ∨ some q = blk hb') w w' := by
  have HN1 : Hid (∀ h ∈ L, h.no ≤ 1000000) := Lib.hid (fun h hm => Nat.le_trans (hn h hm) (by omega))
  have K := Lib.hid hk; have P := Lib.hid hp; have P' := Lib.hid hp'; have HA := Lib.hid hA; have HA' := Lib.hid hA'; have HN := Lib.hid hn; have HN' := Lib.hid hn'; have HG := Lib.hid hg; have HG' := Lib.hid hg'; have HB := Lib.hid hB
  clear hk hp hp' hA hA' hn hn' hg hg' hB
  go_enter Tryz.func17, Tryz.ntmps17
  go_wp2_with fail
  refine Calls.mono (fillByte_any K.out) ?_
  rintro e w' ⟨⟨v, rfl⟩, rfl⟩
  go_wp2_with fail
  refine Calls.mono (fillInt32_any K.out) ?_
  rintro e w' ⟨⟨v, rfl⟩, rfl⟩
  go_wp2_with fail
  refine Calls.mono (fillNum_any K.out) ?_
  rintro e w' ⟨⟨v, rfl⟩, rfl⟩
  go_wp2_with fail
  refine Calls.mono (fillBool_any K.out P.out HA.out HN1.out hl) ?_
  rintro e w1 ⟨⟨v, rfl⟩, hf, hc1⟩
  have S1 := TyS.items (e2 := 4) HA.out
  have F1 := Lib.hid hf; have C1 := Lib.hid (hc1.mono (T := fun q => hBlk L q ∨ hBlk M q ∨ some q = blk hb ∨ some q = blk hb') (fun q _ h => .inl h))
  have P1 : Hid (PartBool w1 B hb hc L) := Lib.hid ⟨P.out.row.chg hc1 (S1.own P.out.row (by decide) (by decide)), P.out.sep⟩
  have Q1 : Hid (PartText w1 B hb' hc' M) := Lib.hid ⟨P'.out.row.chg hc1 (S1.own P'.out.row (by decide) (by decide)), P'.out.sep⟩
  have A1 : Hid (∀ h ∈ M, AnyH w1 B 9 h) := Lib.hid (fun h hm => by obtain ⟨X, hX⟩ := HA'.out h hm; exact ⟨X, hX.chg hc1 (S1.ownZ hX (by decide) (by decide))⟩)
  have K1 := Lib.hid (K.out.chg hc1 (S1.row K.out (by decide) (by decide)))
  have B1 := Lib.hid (Nat.le_trans HB.out hc1.size)
  clear hf hc1 S1
  go_wp2_with fail
  refine Calls.mono (fillText_any K1.out Q1.out A1.out HN'.out hl') ?_
  rintro e w2 ⟨⟨v, rfl⟩, hf, hc2⟩
  have S2 := TyS.items (e2 := 9) A1.out
  have G2 := Lib.hid hf; have C2 := Lib.hid (C1.out.trans (hc2.mono (fun q _ h => .inr (.inl h))))
  have P2 : Hid (PartBool w2 B hb hc L) := Lib.hid ⟨P1.out.row.chg hc2 (S2.own P1.out.row (by decide) (by decide)), P1.out.sep⟩
  have Q2 : Hid (PartText w2 B hb' hc' M) := Lib.hid ⟨Q1.out.row.chg hc2 (S2.own Q1.out.row (by decide) (by decide)), Q1.out.sep⟩
  have F2 : Hid (∀ h ∈ L, FullH w2 B 4 mkL h) := Lib.hid (fun h hm => FullH.chg (F1.out h hm) hc2 (S2.ownZ (F1.out h hm) (by decide) (by decide)))
  have K2 := Lib.hid (K1.out.chg hc2 (S2.row K1.out (by decide) (by decide)))
  have B2 := Lib.hid (Nat.le_trans B1.out hc2.size)
  clear hf hc2 S2
  go_wp2_with fail
  refine Calls.mono (fillToken_any K2.out) ?_
  rintro e w' ⟨⟨v, rfl⟩, rfl⟩
  go_wp2_with fail
  refine Calls.mono (fillTenant_any K2.out) ?_
  rintro e w' ⟨⟨v, rfl⟩, rfl⟩
  go_wp2_with fail
  refine Calls.mono (fillRat_any K2.out) ?_
  rintro e w' ⟨⟨v, rfl⟩, rfl⟩
  go_wp2_with fail
  refine Calls.mono (fillVar_any K2.out) ?_
  rintro e w' ⟨⟨v, rfl⟩, rfl⟩
  go_wp2_with fail
  refine Calls.mono (fillRow_any K2.out) ?_
  rintro e w' ⟨⟨v, rfl⟩, rfl⟩
  go_wp2_with fail
  refine Calls.mono (fillNode_any K2.out) ?_
  rintro e w' ⟨⟨v, rfl⟩, rfl⟩
  go_wp2_with fail
  refine Calls.mono (fillJob_any K2.out) ?_
  rintro e w' ⟨⟨v, rfl⟩, rfl⟩
  go_wp2_with fail
  refine Calls.mono (growByte_any K2.out) ?_
  rintro e w' ⟨⟨v, rfl⟩, rfl⟩
  go_wp2_with fail
  refine Calls.mono (growInt32_any K2.out) ?_
  rintro e w' ⟨⟨v, rfl⟩, rfl⟩
  go_wp2_with fail
  refine Calls.mono (growNum_any K2.out) ?_
  rintro e w' ⟨⟨v, rfl⟩, rfl⟩
  go_wp2_with fail
  refine Calls.mono (growBool_any K2.out P2.out F2.out HN1.out HG.out hl B2.out) ?_
  rintro e w3 ⟨⟨v, rfl⟩, L', hkeys, hrow, hfl, hc3⟩
  have hll : L'.length = L.length := by have := congrArg List.length hkeys; simpa using this
  have S3 := TyS.part (fun h hm => (F2.out h hm).any) P2.out.row
  have C3 := Lib.hid (C2.out.trans (hc3.mono (fun q _ h => h.elim .inl (fun e => .inr (.inr (.inl e))))))
  have Q3 : Hid (PartText w3 B hb' hc' M) := Lib.hid ⟨Q2.out.row.chg hc3 (S3.own Q2.out.row (by decide) (by decide)), Q2.out.sep⟩
  have G3 : Hid (∀ h ∈ M, FullH w3 B 9 mkT h) := Lib.hid (fun h hm => FullH.chg (G2.out h hm) hc3 (S3.ownZ (G2.out h hm) (by decide) (by decide)))
  have K3 := Lib.hid (K2.out.chg hc3 (S3.row K2.out (by decide) (by decide)))
  have B3 := Lib.hid (Nat.le_trans B2.out hc3.size)
  have KEYS := Lib.hid hkeys; have RW := Lib.hid hrow; have FL := Lib.hid hfl; have LL := Lib.hid hll
  clear hkeys hrow hfl hll hc3 S3
  go_wp2_with fail
  refine Calls.mono (growText_any K3.out Q3.out G3.out HN'.out HG'.out hl' B3.out) ?_
  rintro e w4 ⟨⟨v, rfl⟩, M', hkeys, hrow, hfl, hc4⟩
  have hll : M'.length = M.length := by have := congrArg List.length hkeys; simpa using this
  have S4 := TyS.part (fun h hm => (G3.out h hm).any) Q3.out.row
  have C4 := Lib.hid (C3.out.trans (hc4.mono (fun q _ h => h.elim (fun e => .inr (.inl e)) (fun e => .inr (.inr (.inr e))))))
  have RW4 : Hid (Own w4 B 76 3 hb L.length hc (heldRow L')) := Lib.hid (RW.out.chg hc4 (S4.own RW.out (by decide) (by decide)))
  have FL4 : Hid (∀ h ∈ L', FullH w4 B 4 mkL h ∧ LongH w4 B 4 mkL h) := Lib.hid (fun h hm => ⟨FullH.chg (FL.out h hm).1 hc4 (S4.ownZ (FL.out h hm).1 (by decide) (by decide)), (FL.out h hm).2.chg hc4 (S4.own (FL.out h hm).2.2 (by decide) (by decide))⟩)
  have K4 := Lib.hid (K3.out.chg hc4 (S4.row K3.out (by decide) (by decide)))
  have KEYT := Lib.hid hkeys; have RWT := Lib.hid hrow; have FLT := Lib.hid hfl; have LLT := Lib.hid hll
  clear hkeys hrow hfl hll hc4 S4
  go_wp2_with fail
  refine Calls.mono (growToken_any K4.out) ?_
  rintro e w' ⟨⟨v, rfl⟩, rfl⟩
  go_wp2_with fail
  refine Calls.mono (growTenant_any K4.out) ?_
  rintro e w' ⟨⟨v, rfl⟩, rfl⟩
  go_wp2_with fail
  refine Calls.mono (growRat_any K4.out) ?_
  rintro e w' ⟨⟨v, rfl⟩, rfl⟩
  go_wp2_with fail
  refine Calls.mono (growVar_any K4.out) ?_
  rintro e w' ⟨⟨v, rfl⟩, rfl⟩
  go_wp2_with fail
  refine Calls.mono (growRow_any K4.out) ?_
  rintro e w' ⟨⟨v, rfl⟩, rfl⟩
  go_wp2_with fail
  refine Calls.mono (growNode_any K4.out) ?_
  rintro e w' ⟨⟨v, rfl⟩, rfl⟩
  go_wp2_with fail
  refine Calls.mono (growJob_any K4.out) ?_
  rintro e w' ⟨⟨v, rfl⟩, rfl⟩
  go_wp2_with fail
  refine Calls.mono (lookByte_any K4.out) ?_
  rintro e w' ⟨rfl, rfl⟩
  go_wp2_with fail
  refine Calls.mono (lookInt32_any K4.out) ?_
  rintro e w' ⟨rfl, rfl⟩
  go_wp2_with fail
  refine Calls.mono (lookNum_any K4.out) ?_
  rintro e w' ⟨rfl, rfl⟩
  go_wp2_with fail
  refine Calls.mono (lookBool_any (L := L') (hb := hb) (hc := hc) (by rw [LL.out]; exact K4.out) (by rw [LL.out]; exact RW4.out) FL4.out (keys_no KEYS.out HN1.out) (keys_n KEYS.out HG.out) (by rw [LL.out]; exact hl)) ?_
  rintro e w5 ⟨rfl, hc5⟩
  have K5 := Lib.hid (K4.out.chg hc5 (fun h => h))
  have C5 := Lib.hid (C4.out.trans (hc5.mono (fun _ _ h => h.elim)))
  have RW5 : Hid (Own w5 B 74 3 hb' M.length hc' (heldRow M')) := Lib.hid (RWT.out.chg hc5 (fun _ _ h => h))
  have FL5 : Hid (∀ h ∈ M', FullH w5 B 9 mkT h ∧ LongH w5 B 9 mkT h) := Lib.hid (fun h hm => ⟨FullH.chg (FLT.out h hm).1 hc5 (fun _ _ h => h), (FLT.out h hm).2.chg hc5 (fun _ _ h => h)⟩)
  clear hc5
  go_wp2_with fail
  refine Calls.mono (lookText_any (L := M') (hb := hb') (hc := hc') (by rw [LLT.out]; exact K5.out) (by rw [LLT.out]; exact RW5.out) FL5.out (keys_no KEYT.out HN'.out) (keys_n KEYT.out HG'.out) (by rw [LLT.out]; exact hl')) ?_
  rintro e w6 ⟨rfl, hc6⟩
  have K6 := Lib.hid (K5.out.chg hc6 (fun h => h))
  have C6 := Lib.hid (C5.out.trans (hc6.mono (fun _ _ h => h.elim)))
  clear hc6
  go_wp2_with fail
  refine Calls.mono (lookToken_any K6.out) ?_
  rintro e w' ⟨rfl, rfl⟩
  go_wp2_with fail
  refine Calls.mono (lookTenant_any K6.out) ?_
  rintro e w' ⟨rfl, rfl⟩
  go_wp2_with fail
  refine Calls.mono (lookRat_any K6.out) ?_
  rintro e w' ⟨rfl, rfl⟩
  go_wp2_with fail
  refine Calls.mono (lookVar_any K6.out) ?_
  rintro e w' ⟨rfl, rfl⟩
  go_wp2_with fail
  refine Calls.mono (lookRow_any K6.out) ?_
  rintro e w' ⟨rfl, rfl⟩
  go_wp2_with fail
  refine Calls.mono (lookNode_any K6.out) ?_
  rintro e w' ⟨rfl, rfl⟩
  go_wp2_with fail
  refine Calls.mono (lookJob_any K6.out) ?_
  rintro e w' ⟨rfl, rfl⟩
  go_wp2_with fail
  go_ret
  exact ⟨rfl, C6.out⟩
end Go.Proofs.YtjjppbfknjeddaaGreatDoor
