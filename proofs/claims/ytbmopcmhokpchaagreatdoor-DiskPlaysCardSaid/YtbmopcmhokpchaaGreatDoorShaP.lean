/- The sum's plain law: schedule, rounds, blocks. -/
import Derived.Test.YtbmopcmhokpchaaGreatDoorWd
namespace Go.Proofs.YtbmopcmhokpchaaGreatDoor
open Go.RowKit
set_option linter.unusedVariables false
/-- The i-th word of a block. -/
def wordAt (b : List UInt8) (i : Nat) : UInt32 := (b.getD (4 * i) 0).toUInt32 <<< 24 ||| (b.getD (4 * i + 1) 0).toUInt32 <<< 16 ||| (b.getD (4 * i + 2) 0).toUInt32 <<< 8 ||| (b.getD (4 * i + 3) 0).toUInt32
def sg0 (x : UInt32) : UInt32 := rotr x 7 ^^^ rotr x 18 ^^^ x >>> 3
def sg1 (x : UInt32) : UInt32 := rotr x 17 ^^^ rotr x 19 ^^^ x >>> 10
def nextW (b : List UInt8) (l : List UInt32) : UInt32 :=
  if l.length < 16 then wordAt b l.length
  else l.getD (l.length - 16) 0 + l.getD (l.length - 7) 0 + sg0 (l.getD (l.length - 15) 0) + sg1 (l.getD (l.length - 2) 0)
/-- The first k words of the schedule. -/
def sched (b : List UInt8) : Nat → List UInt32
  | 0 => []
  | k + 1 => sched b k ++ [nextW b (sched b k)]
theorem sched_length (b : List UInt8) (k : Nat) : (sched b k).length = k := by
  induction k with
  | zero => rfl
  | succ k ih => simp [sched, ih]
theorem sched_getD (b : List UInt8) {j k m : Nat} (hj : j < k) (hk : k ≤ m) : (sched b m).getD j 0 = (sched b k).getD j 0 := by
  induction m with
  | zero => omega
  | succ m ih =>
    by_cases e : k = m + 1
    · rw [e]
    · rw [← ih (by omega)]
      have := sched_length b m
      simp [sched, List.getD, List.getElem?_append_left (show j < (sched b m).length by omega)]
structure St where
  a : UInt32
  b : UInt32
  c : UInt32
  d : UInt32
  e : UInt32
  f : UInt32
  g : UInt32
  h : UInt32
def St.arr (s : St) : Array Value := #[wv s.a, wv s.b, wv s.c, wv s.d, wv s.e, wv s.f, wv s.g, wv s.h]
def kList : List UInt32 := [
  0x428a2f98, 0x71374491, 0xb5c0fbcf, 0xe9b5dba5, 0x3956c25b, 0x59f111f1, 0x923f82a4, 0xab1c5ed5,
  0xd807aa98, 0x12835b01, 0x243185be, 0x550c7dc3, 0x72be5d74, 0x80deb1fe, 0x9bdc06a7, 0xc19bf174,
  0xe49b69c1, 0xefbe4786, 0x0fc19dc6, 0x240ca1cc, 0x2de92c6f, 0x4a7484aa, 0x5cb0a9dc, 0x76f988da,
  0x983e5152, 0xa831c66d, 0xb00327c8, 0xbf597fc7, 0xc6e00bf3, 0xd5a79147, 0x06ca6351, 0x14292967,
  0x27b70a85, 0x2e1b2138, 0x4d2c6dfc, 0x53380d13, 0x650a7354, 0x766a0abb, 0x81c2c92e, 0x92722c85,
  0xa2bfe8a1, 0xa81a664b, 0xc24b8b70, 0xc76c51a3, 0xd192e819, 0xd6990624, 0xf40e3585, 0x106aa070,
  0x19a4c116, 0x1e376c08, 0x2748774c, 0x34b0bcb5, 0x391c0cb3, 0x4ed8aa4a, 0x5b9cca4f, 0x682e6ff3,
  0x748f82ee, 0x78a5636f, 0x84c87814, 0x8cc70208, 0x90befffa, 0xa4506ceb, 0xbef9a3f7, 0xc67178f2]
def begS : St := ⟨0x6a09e667, 0xbb67ae85, 0x3c6ef372, 0xa54ff53a, 0x510e527f, 0x9b05688c, 0x1f83d9ab, 0x5be0cd19⟩
def tOf (e f g h k w : UInt32) : UInt32 := h + (rotr e 6 ^^^ rotr e 11 ^^^ rotr e 25) + (g ^^^ e &&& (f ^^^ g)) + k + w
def uOf (a b c : UInt32) : UInt32 := (rotr a 2 ^^^ rotr a 13 ^^^ rotr a 22) + (a &&& b ^^^ a &&& c ^^^ b &&& c)
def roundS (s : St) (k w : UInt32) : St := ⟨tOf s.e s.f s.g s.h k w + uOf s.a s.b s.c, s.a, s.b, s.c, s.d + tOf s.e s.f s.g s.h k w, s.e, s.f, s.g⟩
/-- The state after i rounds. -/
def roundsN (b : List UInt8) (s : St) : Nat → St
  | 0 => s
  | i + 1 => roundS (roundsN b s i) (kList.getD i 0) ((sched b 64).getD i 0)
def addS (s t : St) : St := ⟨s.a + t.a, s.b + t.b, s.c + t.c, s.d + t.d, s.e + t.e, s.f + t.f, s.g + t.g, s.h + t.h⟩
def takeS (s : St) (b : List UInt8) : St := addS (roundsN b s 64) s
theorem ch_eq (e f g : UInt32) : g ^^^ e &&& (f ^^^ g) = e &&& f ^^^ ~~~e &&& g := by
  apply UInt32.toBitVec_inj.1
  simp only [UInt32.toBitVec_xor, UInt32.toBitVec_and, UInt32.toBitVec_not]
  ext i hi
  simp only [BitVec.getElem_xor, BitVec.getElem_and, BitVec.getElem_not]
  cases e.toBitVec[i] <;> cases f.toBitVec[i] <;> cases g.toBitVec[i] <;> rfl
theorem maj_eq (a b c : UInt32) : a &&& b ^^^ a &&& c ^^^ b &&& c = a &&& b ||| a &&& c ||| b &&& c := by
  apply UInt32.toBitVec_inj.1
  simp only [UInt32.toBitVec_xor, UInt32.toBitVec_and, UInt32.toBitVec_or]
  ext i hi
  simp only [BitVec.getElem_xor, BitVec.getElem_and, BitVec.getElem_or]
  cases a.toBitVec[i] <;> cases b.toBitVec[i] <;> cases c.toBitVec[i] <;> rfl
def St.l (s : St) : List UInt32 := [s.a, s.b, s.c, s.d, s.e, s.f, s.g, s.h]
def blocksS : Nat → St → List UInt8 → St
  | 0, s, _ => s
  | n + 1, s, l => blocksS n (takeS s (l.take 64)) (l.drop 64)
def St.out (s : St) : List UInt8 := (List.range 32).map fun i => (s.l.getD (i / 4) 0 >>> UInt32.ofNat (24 - i % 4 * 8)).toUInt8
/-- How many bits there are, in eight bytes. -/
def lenB (n : Nat) : List UInt8 := (List.range 8).map fun i => UInt8.ofNat (n * 8 / 2 ^ (56 - 8 * i))
/-- What is behind the whole blocks: a byte 128, and bytes 0, up to 64. -/
def tailB (r : List UInt8) : List UInt8 := r ++ [128] ++ List.replicate (63 - r.length) (0 : UInt8)
def endS (s : St) (r : List UInt8) (n : Nat) : St :=
  if r.length < 56 then takeS s ((tailB r).take 56 ++ lenB n) else takeS (takeS s (tailB r)) (List.replicate 56 (0 : UInt8) ++ lenB n)
/-- The sum. -/
def sha (bs : List UInt8) : List UInt8 := (endS (blocksS (bs.length / 64) begS bs) (bs.drop (64 * (bs.length / 64))) bs.length).out
theorem sha_length (bs : List UInt8) : (sha bs).length = 32 := by simp [sha, St.out]
theorem lenB_length (n : Nat) : (lenB n).length = 8 := by simp [lenB]
theorem tailB_length {r : List UInt8} (h : r.length < 64) : (tailB r).length = 64 := by simp [tailB]; omega
theorem blocksS_succ (k : Nat) : ∀ (s : St) (l : List UInt8), blocksS (k + 1) s l = takeS (blocksS k s l) ((l.drop (64 * k)).take 64) := by
  induction k with
  | zero => intro s l; simp [blocksS]
  | succ k ih =>
    intro s l
    rw [blocksS, ih]
    simp only [blocksS, List.drop_drop]
    rw [show 64 + 64 * k = 64 * (k + 1) by omega]
end Go.Proofs.YtbmopcmhokpchaaGreatDoor
