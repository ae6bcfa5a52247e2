/- Operations on unsigned words, in the walk's spelling. Nothing of the program. -/
import Derived.Test.YtgjpohhafmkhcaaBase
set_option linter.unusedVariables false
set_option linter.unusedSimpArgs false
namespace Go.Proofs.Ytgjpohhafmkhcaa
open Go.RowKit

theorem wrap_u64 (n : Int) : IntKind.u64.wrap n = n % 18446744073709551616 := by
  simp [IntKind.wrap, IntKind.signed, IntKind.bits]
theorem wrap_u8 (n : Int) : IntKind.u8.wrap n = n % 256 := by
  simp [IntKind.wrap, IntKind.signed, IntKind.bits]
theorem toNat_lt (a : UInt64) : a.toNat < 18446744073709551616 := a.toNat_lt
theorem ofInt64 (a : UInt64) : (BitVec.ofInt 64 (a.toNat : Int)) = a.toBitVec := by
  rw [BitVec.ofInt_natCast]; apply BitVec.eq_of_toNat_eq; simp
theorem bits_xor_u64 (a b : UInt64) : bits .xor .u64 (a.toNat : Int) (b.toNat : Int) = ((a ^^^ b).toNat : Int) := by
  show IntKind.u64.wrap ((BitVec.ofInt 64 (a.toNat : Int) ^^^ BitVec.ofInt 64 (b.toNat : Int)).toNat : Int) = _
  rw [ofInt64, ofInt64, wrap_u64, ← UInt64.toBitVec_xor]
  have := toNat_lt (a ^^^ b)
  show ((a ^^^ b).toNat : Int) % _ = _
  omega
theorem bits_and_u64 (a b : UInt64) : bits .and .u64 (a.toNat : Int) (b.toNat : Int) = ((a &&& b).toNat : Int) := by
  show IntKind.u64.wrap ((BitVec.ofInt 64 (a.toNat : Int) &&& BitVec.ofInt 64 (b.toNat : Int)).toNat : Int) = _
  rw [ofInt64, ofInt64, wrap_u64, ← UInt64.toBitVec_and]
  have := toNat_lt (a &&& b)
  show ((a &&& b).toNat : Int) % _ = _
  omega
theorem bits_or_u64 (a b : UInt64) : bits .or .u64 (a.toNat : Int) (b.toNat : Int) = ((a ||| b).toNat : Int) := by
  show IntKind.u64.wrap ((BitVec.ofInt 64 (a.toNat : Int) ||| BitVec.ofInt 64 (b.toNat : Int)).toNat : Int) = _
  rw [ofInt64, ofInt64, wrap_u64, ← UInt64.toBitVec_or]
  have := toNat_lt (a ||| b)
  show ((a ||| b).toNat : Int) % _ = _
  omega
theorem mul_u64 (a b : UInt64) : ((a.toNat : Int) * (b.toNat : Int)) % 18446744073709551616 = ((a * b).toNat : Int) := by
  rw [UInt64.toNat_mul]; omega
theorem add_u64 (a b : UInt64) : ((a.toNat : Int) + (b.toNat : Int)) % 18446744073709551616 = ((a + b).toNat : Int) := by
  rw [UInt64.toNat_add]; omega
theorem sub_u64 (a b : UInt64) : ((a.toNat : Int) - (b.toNat : Int)) % 18446744073709551616 = ((a - b).toNat : Int) := by
  rw [UInt64.toNat_sub]
  have := toNat_lt a; have := toNat_lt b
  omega
theorem ofInt8 (a : Nat) (h : a < 256) : (BitVec.ofInt 8 (a : Int)).toNat = a := by
  rw [BitVec.ofInt_natCast, BitVec.toNat_ofNat]; exact Nat.mod_eq_of_lt h
theorem bits_xor_u8 {a b : Nat} (ha : a < 256) (hb : b < 256) : bits .xor .u8 (a : Int) (b : Int) = ((a ^^^ b : Nat) : Int) := by
  show IntKind.u8.wrap ((BitVec.ofInt 8 (a : Int) ^^^ BitVec.ofInt 8 (b : Int)).toNat : Int) = _
  rw [BitVec.toNat_xor, ofInt8 a ha, ofInt8 b hb, wrap_u8]
  have : a ^^^ b < 2 ^ 8 := Nat.xor_lt_two_pow (by omega) (by omega)
  omega
theorem bits_xor_u64n {a b : Nat} (ha : a < 18446744073709551616) (hb : b < 18446744073709551616) : bits .xor .u64 (a : Int) (b : Int) = ((a ^^^ b : Nat) : Int) := by
  show IntKind.u64.wrap ((BitVec.ofInt 64 (a : Int) ^^^ BitVec.ofInt 64 (b : Int)).toNat : Int) = _
  rw [BitVec.toNat_xor, BitVec.ofInt_natCast, BitVec.ofInt_natCast, BitVec.toNat_ofNat, BitVec.toNat_ofNat, Nat.mod_eq_of_lt ha, Nat.mod_eq_of_lt hb, wrap_u64]
  have : a ^^^ b < 2 ^ 64 := Nat.xor_lt_two_pow (by omega) (by omega)
  omega
/-- the low byte apart -/
theorem xor_low (s b : Nat) (hb : b < 256) : s ^^^ b = s - s % 256 + ((s % 256) ^^^ b) := by
  have h1 : (s ^^^ b) % 2 ^ 8 = (s % 2 ^ 8) ^^^ (b % 2 ^ 8) := Nat.xor_mod_two_pow
  have h2 : (s ^^^ b) / 2 ^ 8 = (s / 2 ^ 8) ^^^ (b / 2 ^ 8) := Nat.xor_div_two_pow
  rw [Nat.mod_eq_of_lt (show b < 2 ^ 8 by omega)] at h1
  rw [Nat.div_eq_of_lt (show b < 2 ^ 8 by omega), Nat.xor_zero] at h2
  simp only [show (2 : Nat) ^ 8 = 256 from rfl] at h1 h2
  omega
theorem bits_or_u64n {a b : Nat} (ha : a < 18446744073709551616) (hb : b < 18446744073709551616) : bits .or .u64 (a : Int) (b : Int) = ((a ||| b : Nat) : Int) := by
  show IntKind.u64.wrap ((BitVec.ofInt 64 (a : Int) ||| BitVec.ofInt 64 (b : Int)).toNat : Int) = _
  rw [BitVec.toNat_or, BitVec.ofInt_natCast, BitVec.ofInt_natCast, BitVec.toNat_ofNat, BitVec.toNat_ofNat, Nat.mod_eq_of_lt ha, Nat.mod_eq_of_lt hb, wrap_u64]
  have : a ||| b < 2 ^ 64 := Nat.or_lt_two_pow (by omega) (by omega)
  omega
theorem bits_and_u64n {a b : Nat} (ha : a < 18446744073709551616) (hb : b < 18446744073709551616) : bits .and .u64 (a : Int) (b : Int) = ((a &&& b : Nat) : Int) := by
  show IntKind.u64.wrap ((BitVec.ofInt 64 (a : Int) &&& BitVec.ofInt 64 (b : Int)).toNat : Int) = _
  rw [BitVec.toNat_and, BitVec.ofInt_natCast, BitVec.ofInt_natCast, BitVec.toNat_ofNat, BitVec.toNat_ofNat, Nat.mod_eq_of_lt ha, Nat.mod_eq_of_lt hb, wrap_u64]
  have : a &&& b < 2 ^ 64 := Nat.and_lt_two_pow _ (by omega)
  omega
/-- 'or' of parts that lie apart is their sum; 'and' with a mask is a remainder. -/
theorem or_int {a b : Int} (k : Nat) (c : Nat) (h0 : 0 ≤ a) (ha : a < ((2 ^ k : Nat) : Int)) (hb : b = ((2 ^ k * c : Nat) : Int)) (hk : a < 18446744073709551616) (hl : b < 18446744073709551616) : bits .or .u64 a b = a + b := by
  obtain ⟨n, rfl⟩ := Int.eq_ofNat_of_zero_le h0
  subst hb
  have hn : n < 2 ^ k := by exact_mod_cast ha
  rw [bits_or_u64n (by omega) (by omega), Nat.or_comm, ← Nat.two_pow_add_eq_or_of_lt hn]
  omega
theorem and_int {a : Int} (k : Nat) (h0 : 0 ≤ a) (ha : a < 18446744073709551616) (m : Int) (hm : m = ((2 ^ k - 1 : Nat) : Int)) (hl : m < 18446744073709551616) : bits .and .u64 a m = a % ((2 ^ k : Nat) : Int) := by
  obtain ⟨n, rfl⟩ := Int.eq_ofNat_of_zero_le h0
  subst hm
  rw [bits_and_u64n (by omega) (by omega), Nat.and_two_pow_sub_one_eq_mod]
  exact Int.natCast_emod n (2 ^ k)
end Go.Proofs.Ytgjpohhafmkhcaa
