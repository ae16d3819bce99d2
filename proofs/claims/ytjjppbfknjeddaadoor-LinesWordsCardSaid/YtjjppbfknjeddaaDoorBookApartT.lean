/- Apart: no list shares memory with another one. -/
import Derived.Test.YtjjppbfknjeddaaDoorBookNoneT
import Derived.Test.YtjjppbfknjeddaaDoorBookText
namespace Go.Proofs.YtjjppbfknjeddaaDoor
open Go.RowKit
set_option linter.unusedVariables false
set_option linter.unusedSimpArgs false
attribute [local go_sem ↓] Go.wp_at_zero Go.wp_at_succ
set_option maxRecDepth 40000 in
set_option maxHeartbeats 8000000 in
theorem Apart_any {w : World} {B k n : Nat} {hb : Option Addr} {hc : Nat} {L : List Held} (hk : BookAt w k n (.slice none 0 0) (.slice none 0 0) (.slice hb L.length hc)) (hp : PartText w B hb hc L) (hA : ∀ h ∈ L, AnyH w B 9 h) (hn : ∀ h ∈ L, h.no ≤ 99) (hg : ∀ h ∈ L, h.n ≤ 1000000000) (hl : L.length ≤ 1000000) (hB : B ≤ w.heap.size) :
    Calls Tryd.prog 9 #[.pointer (some ⟨k, 0, none⟩)] w fun e w' => e = .returned (.bool true) ∧ Chg (fun q => hBlk L q ∨ some q = blk hb) w w' := by
  have NK : Hid (∀ q, (hBlk L q ∨ some q = blk hb) → q ≠ k) := Lib.hid (by
    rintro q (⟨h, hm, hq⟩ | hq)
    · obtain ⟨X, hX⟩ := hA h hm
      exact ownZ_row hX hk (by decide) q hq
    · exact own_row hp.row hk (by decide) q hq)
  have NB : Hid (∀ q, some q = blk hb → ¬ hBlk L q) := Lib.hid (by
    rintro q hq ⟨h, hm, hq2⟩
    obtain ⟨X, hX⟩ := hA h hm
    exact ownZ_apart hX hp.row (by decide) q hq2 hq)
  have HK := Lib.hid hk; have HP := Lib.hid hp; have HA := Lib.hid hA; have HN := Lib.hid hn; have HG := Lib.hid hg; have HB := Lib.hid hB
  clear hk hp hA hn hg hB
  go_enter Tryd.func9, Tryd.ntmps9
  go_wp2_with fail
  refine Calls.mono (fillByte_any HK.out) ?_
  rintro e w' ⟨⟨v, rfl⟩, rfl⟩
  go_wp2_with fail
  refine Calls.mono (fillInt32_any HK.out) ?_
  rintro e w' ⟨⟨v, rfl⟩, rfl⟩
  go_wp2_with fail
  refine Calls.mono (fillNum_any HK.out) ?_
  rintro e w' ⟨⟨v, rfl⟩, rfl⟩
  go_wp2_with fail
  refine Calls.mono (fillBool_any HK.out) ?_
  rintro e w' ⟨⟨v, rfl⟩, rfl⟩
  go_wp2_with fail
  refine Calls.mono (fillText_any HK.out HP.out HA.out HN.out hl) ?_
  rintro e w1 ⟨⟨v, rfl⟩, hf, hc1⟩
  have F1 := Lib.hid hf; have C1 := Lib.hid hc1
  have P1 : Hid (PartText w1 B hb hc L) := Lib.hid ⟨HP.out.row.chg hc1 NB.out, HP.out.sep⟩
  have K1 := Lib.hid (HK.out.chg hc1 (fun e => NK.out k (.inl e) rfl))
  have B1 := Lib.hid (Nat.le_trans HB.out hc1.size)
  clear hf hc1
  go_wp2_with fail
  refine Calls.mono (fillToken_any K1.out) ?_
  rintro e w' ⟨⟨v, rfl⟩, rfl⟩
  go_wp2_with fail
  refine Calls.mono (fillTenant_any K1.out) ?_
  rintro e w' ⟨⟨v, rfl⟩, rfl⟩
  go_wp2_with fail
  refine Calls.mono (fillRat_any K1.out) ?_
  rintro e w' ⟨⟨v, rfl⟩, rfl⟩
  go_wp2_with fail
  refine Calls.mono (fillVar_any K1.out) ?_
  rintro e w' ⟨⟨v, rfl⟩, rfl⟩
  go_wp2_with fail
  refine Calls.mono (fillRow_any K1.out) ?_
  rintro e w' ⟨⟨v, rfl⟩, rfl⟩
  go_wp2_with fail
  refine Calls.mono (fillNode_any K1.out) ?_
  rintro e w' ⟨⟨v, rfl⟩, rfl⟩
  go_wp2_with fail
  refine Calls.mono (fillJob_any K1.out) ?_
  rintro e w' ⟨⟨v, rfl⟩, rfl⟩
  go_wp2_with fail
  refine Calls.mono (growByte_any K1.out) ?_
  rintro e w' ⟨⟨v, rfl⟩, rfl⟩
  go_wp2_with fail
  refine Calls.mono (growInt32_any K1.out) ?_
  rintro e w' ⟨⟨v, rfl⟩, rfl⟩
  go_wp2_with fail
  refine Calls.mono (growNum_any K1.out) ?_
  rintro e w' ⟨⟨v, rfl⟩, rfl⟩
  go_wp2_with fail
  refine Calls.mono (growBool_any K1.out) ?_
  rintro e w' ⟨⟨v, rfl⟩, rfl⟩
  go_wp2_with fail
  refine Calls.mono (growText_any K1.out P1.out F1.out HN.out HG.out hl B1.out) ?_
  rintro e w2 ⟨⟨v, rfl⟩, L', hkeys, hrow, hfl, hc2⟩
  have hll : L'.length = L.length := by have := congrArg List.length hkeys; simpa using this
  have K2 := Lib.hid (K1.out.chg hc2 (fun e => NK.out k e rfl))
  have C2 := Lib.hid ((C1.out.mono (fun _ _ h => .inl h)).trans hc2)
  have KEYS := Lib.hid hkeys; have RW := Lib.hid hrow; have FL := Lib.hid hfl; have LL := Lib.hid hll
  clear hkeys hrow hfl hll hc2
  go_wp2_with fail
  refine Calls.mono (growToken_any K2.out) ?_
  rintro e w' ⟨⟨v, rfl⟩, rfl⟩
  go_wp2_with fail
  refine Calls.mono (growTenant_any K2.out) ?_
  rintro e w' ⟨⟨v, rfl⟩, rfl⟩
  go_wp2_with fail
  refine Calls.mono (growRat_any K2.out) ?_
  rintro e w' ⟨⟨v, rfl⟩, rfl⟩
  go_wp2_with fail
  refine Calls.mono (growVar_any K2.out) ?_
  rintro e w' ⟨⟨v, rfl⟩, rfl⟩
  go_wp2_with fail
  refine Calls.mono (growRow_any K2.out) ?_
  rintro e w' ⟨⟨v, rfl⟩, rfl⟩
  go_wp2_with fail
  refine Calls.mono (growNode_any K2.out) ?_
  rintro e w' ⟨⟨v, rfl⟩, rfl⟩
  go_wp2_with fail
  refine Calls.mono (growJob_any K2.out) ?_
  rintro e w' ⟨⟨v, rfl⟩, rfl⟩
  go_wp2_with fail
  refine Calls.mono (lookByte_any K2.out) ?_
  rintro e w' ⟨rfl, rfl⟩
  go_wp2_with fail
  refine Calls.mono (lookInt32_any K2.out) ?_
  rintro e w' ⟨rfl, rfl⟩
  go_wp2_with fail
  refine Calls.mono (lookNum_any K2.out) ?_
  rintro e w' ⟨rfl, rfl⟩
  go_wp2_with fail
  refine Calls.mono (lookBool_any K2.out) ?_
  rintro e w' ⟨rfl, rfl⟩
  go_wp2_with fail
  refine Calls.mono (lookText_any (L := L') (hb := hb) (hc := hc) (by rw [LL.out]; exact K2.out) (by rw [LL.out]; exact RW.out) FL.out (keys_no KEYS.out HN.out) (keys_n KEYS.out HG.out) (by rw [LL.out]; exact hl)) ?_
  rintro e w3 ⟨rfl, hc3⟩
  have K3 := Lib.hid (K2.out.chg hc3 (fun h => h))
  have C3 := Lib.hid (C2.out.trans (hc3.mono (fun _ _ h => h.elim)))
  clear hc3
  go_wp2_with fail
  refine Calls.mono (lookToken_any K3.out) ?_
  rintro e w' ⟨rfl, rfl⟩
  go_wp2_with fail
  refine Calls.mono (lookTenant_any K3.out) ?_
  rintro e w' ⟨rfl, rfl⟩
  go_wp2_with fail
  refine Calls.mono (lookRat_any K3.out) ?_
  rintro e w' ⟨rfl, rfl⟩
  go_wp2_with fail
  refine Calls.mono (lookVar_any K3.out) ?_
  rintro e w' ⟨rfl, rfl⟩
  go_wp2_with fail
  refine Calls.mono (lookRow_any K3.out) ?_
  rintro e w' ⟨rfl, rfl⟩
  go_wp2_with fail
  refine Calls.mono (lookNode_any K3.out) ?_
  rintro e w' ⟨rfl, rfl⟩
  go_wp2_with fail
  refine Calls.mono (lookJob_any K3.out) ?_
  rintro e w' ⟨rfl, rfl⟩
  go_wp2_with fail
  go_ret
  exact ⟨rfl, C3.out⟩
end Go.Proofs.YtjjppbfknjeddaaDoor
