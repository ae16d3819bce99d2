/- Four bytes put together by shifts and or: the number that they are. -/
import Derived.Test.YtbmopcmhokpchaaGreatDoorLogFrame
namespace Go.Proofs.YtbmopcmhokpchaaGreatDoor
open Go.RowKit
theorem or_nat {a b : Nat} (ha : a < 2 ^ 62) (hb : b < 2 ^ 62) : bits .or .i64 (a : Int) (b : Int) = ((a ||| b : Nat) : Int) := by
  have h : a ||| b < 2 ^ 62 := Nat.or_lt_two_pow ha hb
  simp [bits, IntKind.wrap, IntKind.bits, IntKind.signed]
  have e : (BitVec.ofNat 64 a ||| BitVec.ofNat 64 b).toNat = a ||| b := by
    rw [BitVec.toNat_or, BitVec.toNat_ofNat, BitVec.toNat_ofNat, Nat.mod_eq_of_lt (by omega), Nat.mod_eq_of_lt (by omega)]
  generalize a ||| b = c at h e ⊢
  have key : ∀ N : Nat, N = c → (if 9223372036854775808 ≤ (N : Int) % 18446744073709551616 then (N : Int) % 18446744073709551616 - 18446744073709551616 else (N : Int) % 18446744073709551616) = (c : Int) := by
    intro N hN
    subst hN
    rw [if_neg (by omega)]
    omega
  exact key _ e
theorem or_add {a k b : Nat} (hb : b < 2 ^ k) : a * 2 ^ k ||| b = a * 2 ^ k + b := by
  rw [← Nat.shiftLeft_eq, Nat.shiftLeft_add_eq_or_of_lt hb]
theorem or_four {x0 x1 x2 x3 : Nat} (h0 : x0 < 256) (h1 : x1 < 256) (h2 : x2 < 256) (h3 : x3 < 256) :
    bits .or .i64 (bits .or .i64 (bits .or .i64 ((x0 : Int) * 16777216) ((x1 : Int) * 65536)) ((x2 : Int) * 256)) (x3 : Int) = ((x0 * 16777216 + x1 * 65536 + x2 * 256 + x3 : Nat) : Int) := by
  rw [show (x0 : Int) * 16777216 = ((x0 * 2 ^ 24 : Nat) : Int) by omega, show (x1 : Int) * 65536 = ((x1 * 2 ^ 16 : Nat) : Int) by omega, show (x2 : Int) * 256 = ((x2 * 2 ^ 8 : Nat) : Int) by omega]
  rw [or_nat (by omega) (by omega), or_add (by omega)]
  rw [show x0 * 2 ^ 24 + x1 * 2 ^ 16 = (x0 * 2 ^ 8 + x1) * 2 ^ 16 by omega, or_nat (by omega) (by omega), or_add (by omega)]
  rw [show (x0 * 2 ^ 8 + x1) * 2 ^ 16 + x2 * 2 ^ 8 = ((x0 * 2 ^ 8 + x1) * 2 ^ 8 + x2) * 2 ^ 8 by omega, or_nat (by omega) (by omega), or_add (by omega)]
  try omega
end Go.Proofs.YtbmopcmhokpchaaGreatDoor
