/- Sums' calls, their answers under names. -/
import Derived.Test.YtbmopcmhokpchaaDoorSumsTold
namespace Go.Proofs.YtbmopcmhokpchaaDoor
open Go.RowKit
set_option linter.unusedVariables false
theorem Of_of {w : World} {b : Nat} {ao : Option Addr} {n cap : Nat} {bs S : List UInt8} (hS : S = sha bs) (h : Rd w b ao n cap bs) (hn : n ≤ 1000000000) :
    Calls Tryd.prog 19 #[.slice ao n cap] w fun e w' => e = .returned (.agg (S.map bv).toArray) ∧ Chg Non w w' := by subst hS; exact Of_any h hn
theorem Keyed_of {S : List UInt8} {w : World} {kb : Nat} {ka : Option Addr} {kn kc : Nat} {ks : List UInt8} {b : Nat} {ao : Option Addr} {n cap : Nat} {ls : List UInt8} (hS : S = hmac ks ls) (hr : Rd w kb ka kn kc ks) (hkn : kn ≤ 800000000) (h : Rd w b ao n cap ls) (hn : n ≤ 800000000) :
    Calls Tryd.prog 13 #[.slice ka kn kc, .slice ao n cap] w fun e w' => e = .returned (.agg (S.map bv).toArray) ∧ Chg Non w w' := by subst hS; exact Keyed_any hr hkn h hn
theorem equal_self {S : List UInt8} (h : S.length = 32) (w : World) : (Op.equalIn 10000 33 (.agg (S.map bv).toArray) (.agg (S.map bv).toArray)).run Tryd.prog w = .ok true w := by
  rw [equal_sums h h]; simp
end Go.Proofs.YtbmopcmhokpchaaDoor
