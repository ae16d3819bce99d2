/- Words of 32 bits as the walk meets them, and the sum's small functions. -/
import Derived.Test.YtbmopcmhokpchaaGreatDoorTwin
namespace Go.Proofs.YtbmopcmhokpchaaGreatDoor
open Go.RowKit
set_option linter.unusedVariables false
attribute [local go_sem ↓] Go.wp_at_zero Go.wp_at_succ
/-- A word as a number, as a cell. -/
def wn (x : UInt32) : Int := (x.toNat : Int)
def wv (x : UInt32) : Value := .int .u32 (wn x)
theorem wv_eq (x : UInt32) : wv x = .int .u32 (wn x) := rfl
theorem wv_one (x : UInt32) : (wv x).oneCell' = true := rfl
theorem wn_nn (x : UInt32) : 0 ≤ wn x := by unfold wn; omega
theorem wn_lt (x : UInt32) : wn x < 4294967296 := by unfold wn; have := x.toNat_lt; omega
theorem wn_xor (x y : UInt32) : bits .xor .u32 (wn x) (wn y) = wn (x ^^^ y) := by
  unfold wn; rw [u32_xor_nat _ _ x.toNat_lt y.toNat_lt, UInt32.toNat_xor]
theorem wn_and (x y : UInt32) : bits .and .u32 (wn x) (wn y) = wn (x &&& y) := by
  unfold wn; rw [u32_and_nat _ _ x.toNat_lt y.toNat_lt, UInt32.toNat_and]
theorem wn_or (x y : UInt32) : bits .or .u32 (wn x) (wn y) = wn (x ||| y) := by
  unfold wn; rw [u32_or_nat _ _ x.toNat_lt y.toNat_lt, UInt32.toNat_or]
theorem wn_not (x : UInt32) : bits .xor .u32 4294967295 (wn x) = wn (~~~x) := by
  have e : (4294967295 : Int) = wn 4294967295 := rfl
  rw [e, wn_xor]
  congr 1
theorem wn_add (x y : UInt32) : (wn x + wn y) % 4294967296 = wn (x + y) := by
  unfold wn
  rw [UInt32.toNat_add]
  omega
theorem wn_shr (x : UInt32) (k : Nat) (hk : k < 32) : wn x / 2 ^ k = wn (x >>> UInt32.ofNat k) := by
  unfold wn
  rw [UInt32.toNat_shiftRight, Nat.shiftRight_eq_div_pow, UInt32.toNat_ofNat_of_lt' (by show k < 4294967296; omega), Nat.mod_eq_of_lt hk]
  rw [Int.natCast_ediv, Int.natCast_pow]
  rfl
theorem wn_shl (x : UInt32) (k : Nat) (hk : k < 32) : wn x * 2 ^ k % 4294967296 = wn (x <<< UInt32.ofNat k) := by
  unfold wn
  rw [UInt32.toNat_shiftLeft, Nat.shiftLeft_eq, UInt32.toNat_ofNat_of_lt' (by show k < 4294967296; omega), Nat.mod_eq_of_lt hk]
  rw [Int.natCast_emod, Int.natCast_mul, Int.natCast_pow]
  rfl
theorem u32_wrap (n : Int) : IntKind.u32.wrap n = n % 4294967296 := by
  simp [IntKind.wrap, IntKind.bits, IntKind.signed]
@[go_sem] theorem wrap_add (x y : UInt32) : IntKind.u32.wrap (wn x + wn y) = wn (x + y) := by rw [u32_wrap, wn_add]
@[go_sem] theorem wrap_byte (c : UInt8) : IntKind.u32.wrap (c.toNat : Int) = wn c.toUInt32 := by
  rw [u32_wrap]
  unfold wn
  rw [UInt8.toNat_toUInt32]
  have := c.toNat_lt
  omega
@[go_sem] theorem wrap_shl24 (x : UInt32) : IntKind.u32.wrap (wn x * 16777216) = wn (x <<< 24) := by rw [u32_wrap]; exact wn_shl x 24 (by omega)
@[go_sem] theorem wrap_shl16 (x : UInt32) : IntKind.u32.wrap (wn x * 65536) = wn (x <<< 16) := by rw [u32_wrap]; exact wn_shl x 16 (by omega)
@[go_sem] theorem wrap_shl8 (x : UInt32) : IntKind.u32.wrap (wn x * 256) = wn (x <<< 8) := by rw [u32_wrap]; exact wn_shl x 8 (by omega)
@[go_sem] theorem wn_shr3 (x : UInt32) : wn x / (8 : Int) = wn (x >>> 3) := wn_shr x 3 (by omega)
@[go_sem] theorem wn_shr10 (x : UInt32) : wn x / (1024 : Int) = wn (x >>> 10) := wn_shr x 10 (by omega)
@[go_sem] theorem wn_not_max (x : UInt32) : bits .xor .u32 IntKind.u32.max (wn x) = wn (~~~x) := wn_not x
attribute [go_sem] wn_xor wn_and wn_or wn_add wn_not
/-- Turned right by k. -/
def rotr (x : UInt32) (k : Nat) : UInt32 := x >>> UInt32.ofNat k ||| x <<< UInt32.ofNat (32 - k)
set_option maxRecDepth 20000 in
theorem round_any (x : UInt32) (k : Nat) (h0 : 0 < k) (h1 : k < 32) (w : World) :
    Calls Tryz.prog 109 #[.int .u32 (wn x), .int .u64 (k : Int)] w fun e w' => e = .returned (.int .u32 (wn (rotr x k))) ∧ w = w' := by
  have := wn_nn x
  have := wn_lt x
  go_enter Tryz.func109, Tryz.ntmps109
  go_wp2_with fail
  go_ret
  refine ⟨?_, rfl⟩
  show Ending.returned (Value.int .u32 (bits .or .u32 (wn x / 2 ^ k) (wn x * 2 ^ (32 - k) % 4294967296))) = _
  rw [wn_shr _ _ h1, wn_shl _ _ (by omega), wn_or]
  rfl
theorem neg_and : ∀ k : Fin 32, 0 < k.val → bits .and .u64 (IntKind.u64.wrap (-(k.val : Int))) 31 = 32 - (k.val : Int) := by decide +kernel
theorem RotateLeft_any (x : UInt32) (k : Nat) (h0 : 0 < k) (h1 : k < 32) (w : World) :
    Calls Tryz.prog 112 #[.int .u32 (wn x), .int .i64 (-(k : Int))] w fun e w' => e = .returned (.int .u32 (wn (rotr x k))) ∧ w = w' := by
  have := wn_nn x
  have := wn_lt x
  have he : bits .and .u64 (IntKind.u64.wrap (-(k : Int))) 31 = 32 - (k : Int) := neg_and ⟨k, h1⟩ h0
  have b0 : 0 ≤ 32 - (k : Int) := by omega
  have b1 : 32 - (k : Int) ≤ 32 := by omega
  go_enter Tryz.func112, Tryz.ntmps112
  go_wp2_with fail
  go_ret
  refine ⟨?_, rfl⟩
  show Ending.returned (Value.int .u32 (bits .or .u32 (wn x * 2 ^ (32 - k) % 4294967296) (wn x / 2 ^ (32 - (32 - k))))) = _
  rw [show 32 - (32 - k) = k by omega, wn_shr _ _ h1, wn_shl _ _ (by omega), wn_or, UInt32.or_comm]
  rfl
def mixOf (x : UInt32) (ks : List Nat) : UInt32 := ks.foldl (fun a k => a ^^^ rotr x k) 0
theorem mixOf_succ (x : UInt32) {ks : List Nat} {k : Nat} (hk : k < ks.length) : mixOf x (ks.take (k + 1)) = mixOf x (ks.take k) ^^^ rotr x (ks.getD k 0) := by
  have e : ks.getD k 0 = ks[k] := by simp [List.getD, hk]
  rw [List.take_succ_eq_append_getElem hk, e]
  unfold mixOf
  rw [List.foldl_append]
  rfl
set_option maxRecDepth 20000 in
theorem mix_any (x : UInt32) (ks : List Nat) (hks : ∀ j, j < ks.length → 0 < ks.getD j 0 ∧ ks.getD j 0 < 32) {n : Nat} (hn : ks.length = n) (h8 : n ≤ 8) {g : Nat} {w : World}
    (hc : ∀ j, j < n → w.cell? ⟨g, j, none⟩ = some (.int .i64 ((ks.getD j 0 : Nat) : Int))) :
    Calls Tryz.prog 107 #[.int .u32 (wn x), .slice (some ⟨g, 0, none⟩) n n] w fun e w' => e = .returned (.int .u32 (wn (mixOf x ks))) ∧ w = w' := by
  have HC := Lib.hid hc; have HK := Lib.hid hks; have HN := Lib.hid hn; clear hc hks hn
  go_enter Tryz.func107, Tryz.ntmps107
  go_wp2_with fail
  go_loop [9, 4] (fun i o => ∃ k : Nat, k ≤ n ∧ i = .int .i64 k ∧ o = .int .u32 (wn (mixOf x (ks.take k)))) (fun i _ => n - (intOf i).toNat)
  case atStart => exact ⟨0, by omega, rfl, rfl⟩
  case round =>
    obtain ⟨k, hk, rfl, rfl⟩ := hrel
    by_cases hlt : k < n
    · have y := HC.out k hlt
      have hs := mixOf_succ x (ks := ks) (k := k) (by have := HN.out; omega)
      obtain ⟨q0, q1⟩ := HK.out k (by have := HN.out; omega)
      generalize ks.getD k 0 = d at y hs q0 q1
      generalize mixOf x (ks.take k) = o at hs ⊢
      have HS := Lib.hid hs; clear hs
      have k0 : (0 : Int) ≤ (k : Int) := by omega
      have k1 : (k : Int) < (n : Int) := by omega
      have hx := wn_xor o (rotr x d)
      go_wp2_with fail
      refine Calls.mono (RotateLeft_any x d q0 q1 _) ?_
      rintro e w' ⟨rfl, rfl⟩
      go_wp2_with fail
      go_round
      case rel => exact ⟨k + 1, by omega, by go_num, by rw [HS.out]⟩
      case measure => simp [intOf]; omega
    · go_wp2_with fail
      go_ret
      refine ⟨?_, rfl⟩
      show Ending.returned (Value.int .u32 (wn (mixOf x (ks.take k)))) = _
      rw [List.take_of_length_le (by have := HN.out; omega)]
theorem mix2 (x : UInt32) (a b : Nat) : mixOf x [a, b] = rotr x a ^^^ rotr x b := by simp [mixOf]
theorem mix3 (x : UInt32) (a b c : Nat) : mixOf x [a, b, c] = rotr x a ^^^ rotr x b ^^^ rotr x c := by simp [mixOf]
theorem mixA_any (x : UInt32) {g : Nat} {w : World} (h0 : w.cell? ⟨g, 0, none⟩ = some (.int .i64 7)) (h1 : w.cell? ⟨g, 1, none⟩ = some (.int .i64 18)) :
    Calls Tryz.prog 107 #[.int .u32 (wn x), .slice (some ⟨g, 0, none⟩) 2 2] w fun e w' => e = .returned (.int .u32 (wn (rotr x 7 ^^^ rotr x 18))) ∧ w = w' := by
  rw [← mix2]
  exact mix_any x [7, 18] (fun j hj => match j, hj with | 0, _ => by decide | 1, _ => by decide) rfl (by decide) (fun j hj => match j, hj with | 0, _ => h0 | 1, _ => h1)
theorem mixB_any (x : UInt32) {g : Nat} {w : World} (h0 : w.cell? ⟨g, 0, none⟩ = some (.int .i64 17)) (h1 : w.cell? ⟨g, 1, none⟩ = some (.int .i64 19)) :
    Calls Tryz.prog 107 #[.int .u32 (wn x), .slice (some ⟨g, 0, none⟩) 2 2] w fun e w' => e = .returned (.int .u32 (wn (rotr x 17 ^^^ rotr x 19))) ∧ w = w' := by
  rw [← mix2]
  exact mix_any x [17, 19] (fun j hj => match j, hj with | 0, _ => by decide | 1, _ => by decide) rfl (by decide) (fun j hj => match j, hj with | 0, _ => h0 | 1, _ => h1)
theorem mixC_any (x : UInt32) {g : Nat} {w : World} (h0 : w.cell? ⟨g, 0, none⟩ = some (.int .i64 6)) (h1 : w.cell? ⟨g, 1, none⟩ = some (.int .i64 11)) (h2 : w.cell? ⟨g, 2, none⟩ = some (.int .i64 25)) :
    Calls Tryz.prog 107 #[.int .u32 (wn x), .slice (some ⟨g, 0, none⟩) 3 3] w fun e w' => e = .returned (.int .u32 (wn (rotr x 6 ^^^ rotr x 11 ^^^ rotr x 25))) ∧ w = w' := by
  rw [← mix3]
  exact mix_any x [6, 11, 25] (fun j hj => match j, hj with | 0, _ => by decide | 1, _ => by decide | 2, _ => by decide) rfl (by decide) (fun j hj => match j, hj with | 0, _ => h0 | 1, _ => h1 | 2, _ => h2)
theorem mixD_any (x : UInt32) {g : Nat} {w : World} (h0 : w.cell? ⟨g, 0, none⟩ = some (.int .i64 2)) (h1 : w.cell? ⟨g, 1, none⟩ = some (.int .i64 13)) (h2 : w.cell? ⟨g, 2, none⟩ = some (.int .i64 22)) :
    Calls Tryz.prog 107 #[.int .u32 (wn x), .slice (some ⟨g, 0, none⟩) 3 3] w fun e w' => e = .returned (.int .u32 (wn (rotr x 2 ^^^ rotr x 13 ^^^ rotr x 22))) ∧ w = w' := by
  rw [← mix3]
  exact mix_any x [2, 13, 22] (fun j hj => match j, hj with | 0, _ => by decide | 1, _ => by decide | 2, _ => by decide) rfl (by decide) (fun j hj => match j, hj with | 0, _ => h0 | 1, _ => h1 | 2, _ => h2)
end Go.Proofs.YtbmopcmhokpchaaGreatDoor
