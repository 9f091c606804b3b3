/- What all proofs of this seat share: numbers of a fixed width behind names, what a slice reads as, what a call leaves as it was. No program in sight. -/
import Derived.WalkKit
import Derived.Lib.Hide
namespace Go.Proofs.Ytiihllfjlgbfcaa
open Go.RowKit

/-! ### Numbers of a fixed width, as the walk holds them: behind names -/
def n8 (c : UInt8) : Int := (c.toNat : Int)
def n16 (c : UInt16) : Int := (c.toNat : Int)
def n32 (c : UInt32) : Int := (c.toNat : Int)
def n64 (c : UInt64) : Int := (c.toNat : Int)
def b8 (c : UInt8) : Value := .int .u8 (n8 c)
def b16 (c : UInt16) : Value := .int .u16 (n16 c)
def b32 (c : UInt32) : Value := .int .u32 (n32 c)
def b64 (c : UInt64) : Value := .int .u64 (n64 c)

theorem n8_range (c : UInt8) : 0 ≤ n8 c ∧ n8 c ≤ 255 := by
  have := c.toNat_lt; unfold n8; omega
theorem n16_range (c : UInt16) : 0 ≤ n16 c ∧ n16 c ≤ 65535 := by
  have := c.toNat_lt; unfold n16; omega
theorem n32_range (c : UInt32) : 0 ≤ n32 c ∧ n32 c ≤ 4294967295 := by
  have := c.toNat_lt; unfold n32; omega
theorem n64_range (c : UInt64) : 0 ≤ n64 c ∧ n64 c ≤ 18446744073709551615 := by
  have := c.toNat_lt; unfold n64; omega
theorem n8_inj {a b : UInt8} (h : n8 a = n8 b) : a = b := UInt8.toNat_inj.1 (by unfold n8 at h; omega)
theorem n16_inj {a b : UInt16} (h : n16 a = n16 b) : a = b := UInt16.toNat_inj.1 (by unfold n16 at h; omega)
theorem n32_inj {a b : UInt32} (h : n32 a = n32 b) : a = b := UInt32.toNat_inj.1 (by unfold n32 at h; omega)
theorem n64_inj {a b : UInt64} (h : n64 a = n64 b) : a = b := UInt64.toNat_inj.1 (by unfold n64 at h; omega)
theorem n8_beq (a b : UInt8) : (n8 a == n8 b) = (a == b) := by
  rw [Bool.eq_iff_iff]; simp only [beq_iff_eq]; exact ⟨n8_inj, fun h => by rw [h]⟩
theorem n16_beq (a b : UInt16) : (n16 a == n16 b) = (a == b) := by
  rw [Bool.eq_iff_iff]; simp only [beq_iff_eq]; exact ⟨n16_inj, fun h => by rw [h]⟩
theorem n32_beq (a b : UInt32) : (n32 a == n32 b) = (a == b) := by
  rw [Bool.eq_iff_iff]; simp only [beq_iff_eq]; exact ⟨n32_inj, fun h => by rw [h]⟩
theorem n64_beq (a b : UInt64) : (n64 a == n64 b) = (a == b) := by
  rw [Bool.eq_iff_iff]; simp only [beq_iff_eq]; exact ⟨n64_inj, fun h => by rw [h]⟩
theorem n8_of {x : Int} (h : (Lit.int .u8 x).wf = true) : ∃ c, x = n8 c := by
  have : 0 ≤ x ∧ x ≤ 255 := by simpa [Lit.wf, IntKind.min, IntKind.max, IntKind.bits, IntKind.signed] using h
  exact ⟨UInt8.ofNat x.toNat, by unfold n8; simp; omega⟩
theorem n16_of {x : Int} (h : (Lit.int .u16 x).wf = true) : ∃ c, x = n16 c := by
  have : 0 ≤ x ∧ x ≤ 65535 := by simpa [Lit.wf, IntKind.min, IntKind.max, IntKind.bits, IntKind.signed] using h
  exact ⟨UInt16.ofNat x.toNat, by unfold n16; simp; omega⟩
theorem n32_of {x : Int} (h : (Lit.int .u32 x).wf = true) : ∃ c, x = n32 c := by
  have : 0 ≤ x ∧ x ≤ 4294967295 := by simpa [Lit.wf, IntKind.min, IntKind.max, IntKind.bits, IntKind.signed] using h
  exact ⟨UInt32.ofNat x.toNat, by unfold n32; simp; omega⟩
theorem n64_of {x : Int} (h : (Lit.int .u64 x).wf = true) : ∃ c, x = n64 c := by
  have : 0 ≤ x ∧ x ≤ 18446744073709551615 := by simpa [Lit.wf, IntKind.min, IntKind.max, IntKind.bits, IntKind.signed] using h
  exact ⟨UInt64.ofNat x.toNat, by unfold n64; simp; omega⟩

/-! ### bits of u32 -/
theorem xor32 (a b : UInt32) : bits .xor .u32 (n32 a) (n32 b) = n32 (a ^^^ b) := by
  unfold n32; rw [u32_xor_nat _ _ a.toNat_lt b.toNat_lt, UInt32.toNat_xor]
theorem and32 (a b : UInt32) : bits .and .u32 (n32 a) (n32 b) = n32 (a &&& b) := by
  unfold n32; rw [u32_and_nat _ _ a.toNat_lt b.toNat_lt, UInt32.toNat_and]
theorem or32 (a b : UInt32) : bits .or .u32 (n32 a) (n32 b) = n32 (a ||| b) := by
  unfold n32; rw [u32_or_nat _ _ a.toNat_lt b.toNat_lt, UInt32.toNat_or]
theorem and32_1 (a : UInt32) : bits .and .u32 (n32 a) 1 = n32 (a &&& 1) := and32 a 1
theorem and32_255 (a : UInt32) : bits .and .u32 (n32 a) 255 = n32 (a &&& 255) := and32 a 255
theorem neg32 (a : UInt32) : -n32 a % (4294967296 : Int) = n32 (-a) := by
  unfold n32; rw [UInt32.toNat_neg]; have := a.toNat_lt; simp only [UInt32.size]; omega
theorem not32 (a : UInt32) : bits .xor .u32 4294967295 (n32 a) = n32 (~~~a) := by
  have h := xor32 4294967295 a
  rw [show (4294967295 : UInt32) ^^^ a = ~~~a from by
    rw [← UInt32.toBitVec_inj]; simp only [UInt32.toBitVec_xor, UInt32.toBitVec_not]
    exact BitVec.allOnes_xor] at h
  exact h
theorem sub32 (a : UInt32) : (4294967295 : Int) - n32 a = n32 (~~~a) := by
  unfold n32
  rw [UInt32.toNat_not]; have := a.toNat_lt; simp only [UInt32.size]; omega
theorem mod32 (a : UInt32) : n32 a % (4294967296 : Int) = n32 a := by have := n32_range a; omega
theorem n32_ones : n32 4294967295 = 4294967295 := by unfold n32; rfl
theorem n32_ofNat (k : Nat) (h : k < 4294967296) : n32 (UInt32.ofNat k) = (k : Int) := by
  unfold n32; simp; omega
theorem u8_u32 (c : UInt8) : n8 c % (4294967296 : Int) = n32 c.toUInt32 := by
  unfold n8 n32; have := c.toNat_lt; rw [UInt8.toNat_toUInt32]; omega
theorem u32_u8 (c : UInt32) : n32 c % (256 : Int) = n8 c.toUInt8 := by
  unfold n8 n32; rw [UInt32.toNat_toUInt8]; omega
theorem mod8 (c : UInt8) : n8 c % (256 : Int) = n8 c := by have := n8_range c; omega
theorem tmod256 (c : UInt32) : (n32 c).tmod (256 : Int) = n8 c.toUInt8 := by
  rw [Int.tmod_eq_emod_of_nonneg (n32_range c).1]; exact u32_u8 c
theorem shr32 (a : UInt32) (k : Nat) (hk : k < 32) : n32 a / 2 ^ k = n32 (a >>> UInt32.ofNat k) := by
  unfold n32
  rw [UInt32.toNat_shiftRight, Nat.shiftRight_eq_div_pow]
  have : (UInt32.ofNat k).toNat % 32 = k := by simp; omega
  rw [this]; simp
theorem shr32_1 (a : UInt32) : n32 a / (2 : Int) = n32 (a >>> 1) := shr32 a 1 (by omega)
theorem shr32_8 (a : UInt32) : n32 a / (256 : Int) = n32 (a >>> 8) := shr32 a 8 (by omega)
theorem shr32_16 (a : UInt32) : n32 a / (65536 : Int) = n32 (a >>> 16) := shr32 a 16 (by omega)
theorem shr32_24 (a : UInt32) : n32 a / (16777216 : Int) = n32 (a >>> 24) := shr32 a 24 (by omega)

theorem xor8 (a b : UInt8) : bits .xor .u8 (n8 a) (n8 b) = n8 (a ^^^ b) := by
  unfold n8; rw [u8_xor_nat _ _ a.toNat_lt b.toNat_lt, UInt8.toNat_xor]
/-! ### What a slice's address reads as -/
def Rd (w : World) (a : Option Addr) (cs : List Value) : Prop := ∀ i (h : i < cs.length), ∃ ad, a = some ad ∧ w.cell? (ad.add i) = some cs[i]

theorem Addr.block_add (a : Addr) (n : Nat) : (a.add n).block = a.block := by
  unfold Addr.add; split <;> rfl
theorem Rd.nil (w : World) (a : Option Addr) : Rd w a [] := fun i h => absurd h (by simp)
theorem Rd.below {w w' : World} {a : Option Addr} {cs : List Value} (h : Rd w a cs) (hb : Below w.heap.size w w') : Rd w' a cs := by
  intro i hi
  obtain ⟨ad, ha, hc⟩ := h i hi
  exact ⟨ad, ha, (hb.cell (World.block_lt_of_cell? _ _ hc)).trans hc⟩
theorem Rd.below' {w w' : World} {B : Nat} {a : Option Addr} {cs : List Value} (h : Rd w a cs) (hb : Below B w w') (hB : ∀ ad, a = some ad → ad.block < B) : Rd w' a cs := by
  intro i hi
  obtain ⟨ad, ha, hc⟩ := h i hi
  exact ⟨ad, ha, (hb.cell (by rw [Addr.block_add]; exact hB ad ha)).trans hc⟩
theorem Rd.lt {w : World} {a : Option Addr} {cs : List Value} (h : Rd w a cs) (hn : 0 < cs.length) : ∃ ad, a = some ad ∧ ad.block < w.heap.size := by
  obtain ⟨ad, ha, hc⟩ := h 0 hn
  exact ⟨ad, ha, by have := World.block_lt_of_cell? _ _ hc; rwa [Addr.block_add] at this⟩
end Go.Proofs.Ytiihllfjlgbfcaa
