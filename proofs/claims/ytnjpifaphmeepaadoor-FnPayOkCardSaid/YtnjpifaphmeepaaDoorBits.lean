/- Sets as numbers: what shifts, &, |, &^ and % 2 do to a bit. No program. -/
import Derived.Test.YtnjpifaphmeepaaDoorMem
import Derived.Laws.Bits64b
namespace Go.Proofs.YtnjpifaphmeepaaDoor
open Go Go.RowKit

/-- the bit k of m, as a number -/
def bitZ (m k : Nat) : Int := if m.testBit k then 1 else 0
theorem bitZ_true {m k : Nat} (h : m.testBit k = true) : bitZ m k = 1 := by simp [bitZ, h]
theorem bitZ_false {m k : Nat} (h : m.testBit k = false) : bitZ m k = 0 := by simp [bitZ, h]
theorem shr_mod (m k : Nat) : ((m : Int) / 2 ^ k) % 2 = bitZ m k := by
  have e : ((m : Int) / 2 ^ k) % 2 = ((m / 2 ^ k % 2 : Nat) : Int) := by simp
  rw [e, bitZ, Nat.testBit_eq_decide_div_mod_eq]
  by_cases h : m / 2 ^ k % 2 = 1
  · simp [h]
  · have : m / 2 ^ k % 2 = 0 := by omega
    simp [this]

theorem ofInt_nat {a : Nat} (ha : a < 18446744073709551616) : (BitVec.ofInt 64 (a : Int)).toNat = a := by
  rw [BitVec.ofInt_natCast, BitVec.toNat_ofNat]; exact Nat.mod_eq_of_lt (by omega)
theorem bits_and_nat (a b : Nat) (ha : a < 9223372036854775808) (hb : b < 9223372036854775808) : bits .and .i64 (a : Int) (b : Int) = ((a &&& b : Nat) : Int) := by
  have hx : a &&& b < 2 ^ 63 := Nat.and_lt_two_pow _ (by omega)
  show IntKind.i64.wrap ((BitVec.ofInt 64 (a : Int) &&& BitVec.ofInt 64 (b : Int)).toNat : Int) = _
  rw [BitVec.toNat_and, ofInt_nat (by omega), ofInt_nat (by omega), IntKind.wrap_i64]
  omega
theorem bits_or_nat (a b : Nat) (ha : a < 9223372036854775808) (hb : b < 9223372036854775808) : bits .or .i64 (a : Int) (b : Int) = ((a ||| b : Nat) : Int) := by
  have hx : a ||| b < 2 ^ 63 := Nat.or_lt_two_pow (by omega) (by omega)
  show IntKind.i64.wrap ((BitVec.ofInt 64 (a : Int) ||| BitVec.ofInt 64 (b : Int)).toNat : Int) = _
  rw [BitVec.toNat_or, ofInt_nat (by omega), ofInt_nat (by omega), IntKind.wrap_i64]
  omega
/-- set >> k & 1 -/
theorem shr_and (m k : Nat) (hm : m < 9223372036854775808) : bits .and .i64 ((m : Int) / 2 ^ k) 1 = bitZ m k := by
  have e : ((m : Int) / 2 ^ k) = ((m / 2 ^ k : Nat) : Int) := by simp
  have h1 : m / 2 ^ k ≤ m := Nat.div_le_self _ _
  have h := bits_and_nat (m / 2 ^ k) 1 (by omega) (by omega)
  rw [Nat.and_one_is_mod] at h
  rw [e]
  exact h.trans (by rw [← shr_mod]; simp)

theorem pow_le_of {n k : Nat} (h : n ≤ k) : 2 ^ n ≤ 2 ^ k := Nat.pow_le_pow_right (by omega) h
theorem wrap_pow {n : Nat} (h : n ≤ 62) : wrap64 (2 ^ n) = 2 ^ n := by
  have h1 : (2 : Nat) ^ n ≤ 2 ^ 62 := pow_le_of h
  have h2 : ((2 : Int) ^ n) = ((2 ^ n : Nat) : Int) := by simp
  rw [h2]
  generalize (2 : Nat) ^ n = p at *
  exact IntWalk.wrap64_in _ ⟨by omega, by omega⟩
end Go.Proofs.YtnjpifaphmeepaaDoor
