/- CRC-32C as plain functions on 32-bit words and lists of bytes. No program in sight. -/
import Derived.Test.YtiihllfjlgbfcaaBase
namespace Go.Proofs.Ytiihllfjlgbfcaa.Crc

def half (r : UInt32) : UInt32 := r >>> 1 ^^^ (0x82f63b78 &&& -(r &&& 1))
def halfN : Nat → UInt32 → UInt32
  | 0, r => r
  | n + 1, r => half (halfN n r)
def eight (r : UInt32) : UInt32 := halfN 8 r
def step (r : UInt32) (c : UInt8) : UInt32 := eight (r ^^^ c.toUInt32)
def run (r : UInt32) (l : List UInt8) : UInt32 := l.foldl step r
def add (s : UInt32) (l : List UInt8) : UInt32 := ~~~(run (~~~s) l)
def sum (l : List UInt8) : UInt32 := add 0 l

def table (i : Int) : UInt32 := if i < 0 ∨ 255 < i then 0 else eight (UInt32.ofNat i.toNat)

theorem run_nil (r : UInt32) : run r [] = r := rfl
theorem run_append (r : UInt32) (a b : List UInt8) : run r (a ++ b) = run (run r a) b := List.foldl_append
theorem run_take_succ (r : UInt32) (l : List UInt8) (k : Nat) (h : k < l.length) : run r (l.take (k + 1)) = step (run r (l.take k)) l[k] := by
  rw [List.take_succ_eq_append_getElem h, run_append]; rfl

theorem and1_cases (r : UInt32) : r &&& 1 = 0 ∨ r &&& 1 = 1 := by
  have h : (r &&& 1).toNat = r.toNat % 2 := by rw [UInt32.toNat_and]; exact Nat.and_two_pow_sub_one_eq_mod _ 1
  rcases Nat.mod_two_eq_zero_or_one r.toNat with h' | h'
  · left; apply UInt32.toNat_inj.1; rw [h, h']; rfl
  · right; apply UInt32.toNat_inj.1; rw [h, h']; rfl
/-- The polynomial, if the lowest bit says so. -/
def poly (b : UInt32) : UInt32 := 0x82f63b78 &&& -b
theorem and1_xor (a b : UInt32) : (a ^^^ b) &&& 1 = (a &&& 1) ^^^ (b &&& 1) := by
  rw [← UInt32.toBitVec_inj]; simp only [UInt32.toBitVec_and, UInt32.toBitVec_xor]
  apply BitVec.eq_of_getLsbD_eq
  intro i hi
  simp only [BitVec.getLsbD_and, BitVec.getLsbD_xor]
  cases a.toBitVec.getLsbD i <;> cases b.toBitVec.getLsbD i <;> simp
theorem poly_xor (a b : UInt32) : poly ((a ^^^ b) &&& 1) = poly (a &&& 1) ^^^ poly (b &&& 1) := by
  rw [and1_xor]
  rcases and1_cases a with ha | ha <;> rcases and1_cases b with hb | hb <;> rw [ha, hb] <;> decide
theorem shr_xor (a b : UInt32) (k : UInt32) : (a ^^^ b) >>> k = a >>> k ^^^ b >>> k := by
  rw [← UInt32.toBitVec_inj]; simp [BitVec.ushiftRight_xor_distrib]
theorem xor4 (a b c d : UInt32) : (a ^^^ b) ^^^ (c ^^^ d) = (a ^^^ c) ^^^ (b ^^^ d) := by ac_rfl
theorem half_xor (a b : UInt32) : half (a ^^^ b) = half a ^^^ half b := by
  show _ ^^^ poly _ = (_ ^^^ poly _) ^^^ (_ ^^^ poly _)
  rw [shr_xor, poly_xor, xor4]
theorem halfN_xor (n : Nat) (a b : UInt32) : halfN n (a ^^^ b) = halfN n a ^^^ halfN n b := by
  induction n with
  | zero => rfl
  | succ n ih => simp only [halfN, ih, half_xor]
theorem halfN_add (m n : Nat) (r : UInt32) : halfN (m + n) r = halfN m (halfN n r) := by
  induction m with
  | zero => simp [halfN]
  | succ m ih => rw [Nat.succ_add]; simp only [halfN, ih]
theorem eight_xor (a b : UInt32) : eight (a ^^^ b) = eight a ^^^ eight b := halfN_xor 8 a b

/-- The reference's half step. -/
theorem half_odd (r : UInt32) (h : r.toNat % 2 = 1) : half r = (r >>> 1) ^^^ 0x82f63b78 := by
  have h1 : r &&& 1 = 1 := by
    apply UInt32.toNat_inj.1; rw [UInt32.toNat_and]; exact (Nat.and_two_pow_sub_one_eq_mod _ 1).trans h
  unfold half; rw [h1]; congr 1
theorem half_even (r : UInt32) (h : r.toNat % 2 = 0) : half r = r >>> 1 := by
  have h1 : r &&& 1 = 0 := by
    apply UInt32.toNat_inj.1; rw [UInt32.toNat_and]; exact (Nat.and_two_pow_sub_one_eq_mod _ 1).trans h
  unfold half; rw [h1]; simp

/-- A register whose lowest bits are noughts: half a step is a shift. -/
theorem halfN_shift (n : Nat) (r : UInt32) (h : r.toNat % 2 ^ n = 0) : (halfN n r).toNat = r.toNat / 2 ^ n := by
  induction n with
  | zero => simp [halfN]
  | succ n ih =>
    have hn : r.toNat % 2 ^ n = 0 := by
      have := Nat.mod_mod_of_dvd r.toNat (Nat.pow_dvd_pow 2 (Nat.le_succ n))
      rw [← this, h]; simp
    have e := ih hn
    have h2 : (halfN n r).toNat % 2 = 0 := by
      rw [e]
      obtain ⟨q, hq⟩ := Nat.dvd_of_mod_eq_zero h
      rw [hq, Nat.pow_succ, Nat.mul_assoc, Nat.mul_div_cancel_left _ (Nat.two_pow_pos n)]
      omega
    rw [halfN, half_even _ h2, UInt32.toNat_shiftRight, e, Nat.shiftRight_eq_div_pow]
    show r.toNat / 2 ^ n / 2 ^ 1 = _
    rw [Nat.div_div_eq_div_mul, ← Nat.pow_add]
/-- A step by a table: the upper bytes shift, the lowest one goes through the table. -/
theorem split8 (r : UInt32) : r = (r >>> 8 <<< 8) ^^^ (r &&& 255) := by
  rw [← UInt32.toBitVec_inj]
  apply BitVec.eq_of_getLsbD_eq
  intro i hi
  simp only [UInt32.toBitVec_xor, UInt32.toBitVec_and, UInt32.toBitVec_shiftLeft, UInt32.toBitVec_shiftRight]
  have h255 : (UInt32.toBitVec 255).getLsbD i = decide (i < 8) := by
    revert i; decide
  have e8 : (UInt32.toBitVec 8 % 32).toNat = 8 := by decide
  simp only [BitVec.getLsbD_xor, BitVec.getLsbD_and, h255, BitVec.shiftLeft_eq', BitVec.ushiftRight_eq', e8, BitVec.getLsbD_shiftLeft, BitVec.getLsbD_ushiftRight]
  by_cases h8 : i < 8
  · simp [h8]
  · have : 8 + (i - 8) = i := by omega
    simp [h8, hi, this]
theorem eight_shl (x : UInt32) (h : x.toNat < 2 ^ 24) : eight (x <<< 8) = x := by
  have e : (x <<< 8).toNat = x.toNat * 256 := by
    rw [UInt32.toNat_shiftLeft, Nat.shiftLeft_eq]
    show x.toNat * 2 ^ 8 % 2 ^ 32 = _
    omega
  apply UInt32.toNat_inj.1
  unfold eight
  rw [halfN_shift 8 _ (by rw [e]; omega), e]
  omega
theorem step_table (r : UInt32) (c : UInt8) : r >>> 8 ^^^ eight ((r &&& 255) ^^^ c.toUInt32) = step r c := by
  unfold step
  conv => rhs; rw [split8 r, UInt32.xor_assoc, eight_xor]
  rw [eight_shl]
  rw [UInt32.toNat_shiftRight, Nat.shiftRight_eq_div_pow]
  have := r.toNat_lt
  show r.toNat / 2 ^ 8 < _
  omega
end Go.Proofs.Ytiihllfjlgbfcaa.Crc
