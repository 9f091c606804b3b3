/- More of typed numbers: 16 and 64 bits. -/
import Derived.Test.YtiihllfjlgbfcaaArrOps
namespace Go.Proofs.Ytiihllfjlgbfcaa
open Go.RowKit

theorem rem64 (c : UInt64) : (n64 c).tmod (256 : Int) = n64 (c % 256) := by
  rw [Int.tmod_eq_emod_of_nonneg (n64_range c).1]; unfold n64; rw [UInt64.toNat_mod]; rfl
theorem quo64 (c : UInt64) : (n64 c).tdiv (256 : Int) = n64 (c / 256) := by
  rw [Int.tdiv_eq_ediv_of_nonneg (n64_range c).1]; unfold n64; rw [UInt64.toNat_div]; rfl
theorem u64_u8 (c : UInt64) : n64 c % (256 : Int) = n8 c.toUInt8 := by
  unfold n8 n64; rw [UInt64.toNat_toUInt8]; omega
theorem u64_u16 (c : UInt64) : n64 c % (65536 : Int) = n16 c.toUInt16 := by
  unfold n16 n64; rw [UInt64.toNat_toUInt16]; omega
theorem u32_u64 (c : UInt32) : n32 c % (18446744073709551616 : Int) = n64 c.toUInt64 := by
  unfold n32 n64; rw [UInt32.toNat_toUInt64]; have := c.toNat_lt; omega
theorem u16_u64 (c : UInt16) : n16 c % (18446744073709551616 : Int) = n64 c.toUInt64 := by
  unfold n16 n64; rw [UInt16.toNat_toUInt64]; have := c.toNat_lt; omega
theorem u8_u64 (c : UInt8) : n8 c % (18446744073709551616 : Int) = n64 c.toUInt64 := by
  unfold n8 n64; rw [UInt8.toNat_toUInt64]; have := c.toNat_lt; omega
theorem u8_u16 (c : UInt8) : n8 c % (65536 : Int) = n16 c.toUInt16 := by
  unfold n8 n16; rw [UInt8.toNat_toUInt16]; have := c.toNat_lt; omega
theorem u16_u8 (c : UInt16) : n16 c % (256 : Int) = n8 c.toUInt8 := by
  unfold n8 n16; rw [UInt16.toNat_toUInt8]; omega
theorem mul64 (c : UInt64) : n64 c * (256 : Int) % (18446744073709551616 : Int) = n64 (c * 256) := by
  unfold n64; rw [UInt64.toNat_mul]; simp
theorem add64 (a b : UInt64) : (n64 a + n64 b) % (18446744073709551616 : Int) = n64 (a + b) := by
  unfold n64; rw [UInt64.toNat_add]; omega
theorem shr16_8 (a : UInt16) : n16 a / (256 : Int) = n16 (a >>> 8) := by
  unfold n16
  rw [UInt16.toNat_shiftRight, Nat.shiftRight_eq_div_pow]
  simp
theorem or16 (a b : UInt16) : bits .or .u16 (n16 a) (n16 b) = n16 (a ||| b) := by
  unfold n16; rw [u16_or_nat _ _ a.toNat_lt b.toNat_lt, UInt16.toNat_or]
theorem shl16_8 (a : UInt16) : n16 a * (256 : Int) % (65536 : Int) = n16 (a <<< 8) := by
  unfold n16
  rw [UInt16.toNat_shiftLeft, Nat.shiftLeft_eq]
  simp
theorem mod16 (c : UInt16) : n16 c % (65536 : Int) = n16 c := by have := n16_range c; omega
theorem mod64 (c : UInt64) : n64 c % (18446744073709551616 : Int) = n64 c := by have := n64_range c; omega
theorem wrap64 (c : UInt64) : IntKind.u64.wrap (n64 c) = n64 c := mod64 c
theorem wrap8 (c : UInt8) : IntKind.u8.wrap (n8 c) = n8 c := mod8 c
theorem wrap16 (c : UInt16) : IntKind.u16.wrap (n16 c) = n16 c := mod16 c
theorem wrap32 (c : UInt32) : IntKind.u32.wrap (n32 c) = n32 c := mod32 c
theorem wmul64 (c : UInt64) : IntKind.u64.wrap (n64 c * 256) = n64 (c * 256) := mul64 c
theorem wadd64 (a b : UInt64) : IntKind.u64.wrap (n64 a + n64 b) = n64 (a + b) := add64 a b
theorem w8_64 (c : UInt8) : IntKind.u64.wrap (n8 c) = n64 c.toUInt64 := u8_u64 c
theorem w16_64 (c : UInt16) : IntKind.u64.wrap (n16 c) = n64 c.toUInt64 := u16_u64 c
theorem w32_64 (c : UInt32) : IntKind.u64.wrap (n32 c) = n64 c.toUInt64 := u32_u64 c
theorem w8_16 (c : UInt8) : IntKind.u16.wrap (n8 c) = n16 c.toUInt16 := u8_u16 c
theorem w16_8 (c : UInt16) : IntKind.u8.wrap (n16 c) = n8 c.toUInt8 := u16_u8 c
theorem w64_8 (c : UInt64) : IntKind.u8.wrap (n64 c) = n8 c.toUInt8 := u64_u8 c
theorem w64_16 (c : UInt64) : IntKind.u16.wrap (n64 c) = n16 c.toUInt16 := u64_u16 c
theorem w32_8 (c : UInt32) : IntKind.u8.wrap (n32 c) = n8 c.toUInt8 := u32_u8 c
end Go.Proofs.Ytiihllfjlgbfcaa
