/- The theorem of stage 2, plainly: bits within 32 of one another that are others give another sum. No program in sight. -/
import Derived.Test.YtiihllfjlgbfcaaCrcFn
namespace Go.Proofs.Ytiihllfjlgbfcaa.Crc

theorem half_zero {x : UInt32} (h : half x = 0) : x = 0 := by
  rcases and1_cases x with h1 | h1
  · have h2 : x >>> 1 = 0 := by
      unfold half at h; rw [h1] at h; simpa using h
    have h3 : x.toNat / 2 = 0 := by
      have := congrArg UInt32.toNat h2
      rw [UInt32.toNat_shiftRight, Nat.shiftRight_eq_div_pow] at this
      exact this
    have h4 : x.toNat % 2 = 0 := by
      have := congrArg UInt32.toNat h1
      rw [UInt32.toNat_and] at this
      exact (Nat.and_two_pow_sub_one_eq_mod _ 1).symm.trans this
    apply UInt32.toNat_inj.1
    show x.toNat = 0
    omega
  · exfalso
    unfold half at h
    rw [h1] at h
    have h2 : x >>> 1 = 0x82f63b78 := by
      have := congrArg (· ^^^ (0x82f63b78 &&& -1 : UInt32)) h
      simp only [UInt32.xor_assoc, UInt32.xor_self, UInt32.xor_zero, UInt32.zero_xor] at this
      exact this
    have h3 := congrArg UInt32.toNat h2
    rw [UInt32.toNat_shiftRight, Nat.shiftRight_eq_div_pow] at h3
    have h4 : x.toNat / 2 = 2197175160 := h3
    have := x.toNat_lt
    omega
theorem halfN_zero {n : Nat} {x : UInt32} (h : halfN n x = 0) : x = 0 := by
  induction n with
  | zero => exact h
  | succ n ih => exact ih (half_zero h)
theorem halfN_at_zero (n : Nat) : halfN n 0 = 0 := by
  induction n with
  | zero => rfl
  | succ n ih => rw [halfN, ih]; rfl
theorem step_xor (r e : UInt32) (c d : UInt8) : step (r ^^^ e) (c ^^^ d) = step r c ^^^ eight (e ^^^ d.toUInt32) := by
  unfold step
  rw [← eight_xor]
  congr 1
  rw [show (c ^^^ d).toUInt32 = c.toUInt32 ^^^ d.toUInt32 from UInt8.toUInt32_xor c d]
  ac_rfl
theorem step_xor' (r e : UInt32) (c : UInt8) : step (r ^^^ e) c = step r c ^^^ eight e := by
  have := step_xor r e c 0
  simpa using this
theorem run_xor (q : List UInt8) : ∀ (r e : UInt32), run (r ^^^ e) q = run r q ^^^ halfN (8 * q.length) e := by
  induction q with
  | nil => intro r e; rfl
  | cons c q ih =>
    intro r e
    show run (step (r ^^^ e) c) q = run (step r c) q ^^^ _
    rw [step_xor', ih]
    congr 1
    rw [List.length_cons, Nat.mul_succ, halfN_add]
    rfl
/-- Byte number k of 32 bits. -/
def nth (bits : UInt32) (k : Nat) : UInt8 := (bits >>> UInt32.ofNat (8 * k)).toUInt8
theorem bytes4 (x : UInt32) : x = (nth x 0).toUInt32 ^^^ ((nth x 1).toUInt32 <<< 8) ^^^ ((nth x 2).toUInt32 <<< 16) ^^^ ((nth x 3).toUInt32 <<< 24) := by
  have hb : ∀ k, k < 4 → ((nth x k).toUInt32).toNat = x.toNat / 2 ^ (8 * k) % 256 := by
    intro k hk
    unfold nth
    rw [UInt8.toNat_toUInt32, UInt32.toNat_toUInt8, UInt32.toNat_shiftRight, Nat.shiftRight_eq_div_pow]
    have : (UInt32.ofNat (8 * k)).toNat % 32 = 8 * k := by simp; omega
    rw [this]
  have hbit : ∀ k, k < 4 → ∀ j, ((nth x k).toUInt32).toBitVec.getLsbD j = (decide (j < 8) && x.toBitVec.getLsbD (8 * k + j)) := by
    intro k hk j
    show ((nth x k).toUInt32).toNat.testBit j = (_ && x.toNat.testBit (8 * k + j))
    rw [hb k hk, show (256 : Nat) = 2 ^ 8 from rfl, Nat.testBit_mod_two_pow, Nat.testBit_div_two_pow, Nat.add_comm]
  rw [← UInt32.toBitVec_inj]
  apply BitVec.eq_of_getLsbD_eq
  intro i hi
  have e8 : ((8 : UInt32).toBitVec % 32).toNat = 8 := by decide
  have e16 : ((16 : UInt32).toBitVec % 32).toNat = 16 := by decide
  have e24 : ((24 : UInt32).toBitVec % 32).toNat = 24 := by decide
  simp only [UInt32.toBitVec_xor, UInt32.toBitVec_shiftLeft, BitVec.getLsbD_xor, BitVec.shiftLeft_eq', e8, e16, e24, BitVec.getLsbD_shiftLeft,
    hbit 0 (by omega), hbit 1 (by omega), hbit 2 (by omega), hbit 3 (by omega)]
  rcases (show i < 8 ∨ (8 ≤ i ∧ i < 16) ∨ (16 ≤ i ∧ i < 24) ∨ (24 ≤ i ∧ i < 32) by omega) with h | h | h | h
  · simp [h, show i < 16 by omega, show i < 24 by omega]
  · have a1 : 8 * 1 + (i - 8) = i := by omega
    simp only [show ¬ i < 8 by omega, show i < 16 by omega, show i < 24 by omega, show i - 8 < 8 by omega, hi, a1]; simp
  · have a1 : 8 * 2 + (i - 16) = i := by omega
    simp only [show ¬ i < 8 by omega, show ¬ i < 16 by omega, show i < 24 by omega, show ¬ i - 8 < 8 by omega, show i - 16 < 8 by omega, hi, a1]; simp
  · have a1 : 8 * 3 + (i - 24) = i := by omega
    simp only [show ¬ i < 8 by omega, show ¬ i < 16 by omega, show ¬ i < 24 by omega, show ¬ i - 8 < 8 by omega, show ¬ i - 16 < 8 by omega, show i - 24 < 8 by omega, hi, a1]; simp
theorem halfN_shl (d : UInt8) (k : Nat) (hk : k < 4) : halfN (8 * k) (d.toUInt32 <<< UInt32.ofNat (8 * k)) = d.toUInt32 := by
  have hd := d.toNat_lt
  have e : (d.toUInt32 <<< UInt32.ofNat (8 * k)).toNat = d.toNat * 2 ^ (8 * k) := by
    rw [UInt32.toNat_shiftLeft, Nat.shiftLeft_eq, UInt8.toNat_toUInt32]
    have h1 : (UInt32.ofNat (8 * k)).toNat % 32 = 8 * k := by simp; omega
    rw [h1]
    apply Nat.mod_eq_of_lt
    have h2 : 2 ^ (8 * k) ≤ 2 ^ 24 := Nat.pow_le_pow_right (by omega) (by omega)
    calc d.toNat * 2 ^ (8 * k) ≤ 255 * 2 ^ 24 := Nat.mul_le_mul (by omega) h2
      _ < 2 ^ 32 := by decide
  apply UInt32.toNat_inj.1
  rw [halfN_shift _ _ (by rw [e]; exact Nat.mul_mod_left _ _), e, Nat.mul_div_cancel _ (Nat.two_pow_pos _), UInt8.toNat_toUInt32]
theorem four_eq (bits : UInt32) : eight (eight (eight (eight (nth bits 0).toUInt32 ^^^ (nth bits 1).toUInt32) ^^^ (nth bits 2).toUInt32) ^^^ (nth bits 3).toUInt32) = halfN 32 bits := by
  have k1 : halfN 8 ((nth bits 1).toUInt32 <<< 8) = (nth bits 1).toUInt32 := halfN_shl (nth bits 1) 1 (by omega)
  have k2 : halfN 16 ((nth bits 2).toUInt32 <<< 16) = (nth bits 2).toUInt32 := halfN_shl (nth bits 2) 2 (by omega)
  have k3 : halfN 24 ((nth bits 3).toUInt32 <<< 24) = (nth bits 3).toUInt32 := halfN_shl (nth bits 3) 3 (by omega)
  have hb := bytes4 bits
  generalize (nth bits 0).toUInt32 = d0 at *
  generalize (nth bits 1).toUInt32 = d1 at *
  generalize (nth bits 2).toUInt32 = d2 at *
  generalize (nth bits 3).toUInt32 = d3 at *
  have e1 : halfN 8 (d0 ^^^ (d1 <<< 8)) = eight d0 ^^^ d1 := by rw [halfN_xor, k1]; rfl
  have e2 : halfN 16 (d0 ^^^ (d1 <<< 8) ^^^ (d2 <<< 16)) = eight (eight d0 ^^^ d1) ^^^ d2 := by
    rw [halfN_xor, k2, ← e1]
    exact congrArg (· ^^^ d2) (halfN_add 8 8 _)
  have e3 : halfN 24 (d0 ^^^ (d1 <<< 8) ^^^ (d2 <<< 16) ^^^ (d3 <<< 24)) = eight (eight (eight d0 ^^^ d1) ^^^ d2) ^^^ d3 := by
    rw [halfN_xor, k3, ← e2]
    exact congrArg (· ^^^ d3) (halfN_add 8 16 _)
  rw [← e3, ← hb]
  exact (halfN_add 8 24 bits).symm
/-- Four bytes behind a register, other bits: the register is another by the bits, 32 half steps on. -/
theorem run_four (r bits : UInt32) (c0 c1 c2 c3 : UInt8) :
    run r [c0 ^^^ nth bits 0, c1 ^^^ nth bits 1, c2 ^^^ nth bits 2, c3 ^^^ nth bits 3] = run r [c0, c1, c2, c3] ^^^ halfN 32 bits := by
  have h0 := step_xor r 0 c0 (nth bits 0)
  rw [UInt32.xor_zero, UInt32.zero_xor] at h0
  rw [← four_eq]
  simp only [run, List.foldl_cons, List.foldl_nil]
  rw [h0, step_xor, step_xor, step_xor]
theorem run_flip_ne (r bits : UInt32) (hb : bits ≠ 0) (p q : List UInt8) (c0 c1 c2 c3 : UInt8) :
    run r (p ++ [c0 ^^^ nth bits 0, c1 ^^^ nth bits 1, c2 ^^^ nth bits 2, c3 ^^^ nth bits 3] ++ q) ≠ run r (p ++ [c0, c1, c2, c3] ++ q) := by
  rw [run_append, run_append, run_append (r) (p ++ _) q, run_append r p, run_four, run_xor]
  intro h
  have h1 : halfN (8 * q.length) (halfN 32 bits) = 0 := by
    have := congrArg (run (run (run r p) [c0, c1, c2, c3]) q ^^^ ·) h
    simp only [← UInt32.xor_assoc, UInt32.xor_self, UInt32.zero_xor] at this
    exact this
  exact hb (halfN_zero (halfN_zero h1))
theorem not_inj {a b : UInt32} (h : ~~~a = ~~~b) : a = b := by
  have := congrArg (~~~ ·) h
  simpa using this
theorem sum_flip_ne (bits : UInt32) (hb : bits ≠ 0) (p q : List UInt8) (c0 c1 c2 c3 : UInt8) :
    sum (p ++ [c0 ^^^ nth bits 0, c1 ^^^ nth bits 1, c2 ^^^ nth bits 2, c3 ^^^ nth bits 3] ++ q) ≠ sum (p ++ [c0, c1, c2, c3] ++ q) :=
  fun h => run_flip_ne _ bits hb p q c0 c1 c2 c3 (not_inj h)
theorem sum_append (a b : List UInt8) : sum (a ++ b) = add (sum a) b := by
  unfold sum add
  rw [run_append]
  simp

/-- A row of which bits from byte 'at' on are others, so many bytes of them as k says. -/
def flip (l : List UInt8) (i : Nat) (bits : UInt32) : Nat → List UInt8
  | 0 => l
  | k + 1 => (flip l i bits k).set (i + k) ((flip l i bits k).getD (i + k) 0 ^^^ nth bits k)
theorem flip_length (l : List UInt8) (i : Nat) (bits : UInt32) : ∀ k, (flip l i bits k).length = l.length
  | 0 => rfl
  | k + 1 => by rw [flip, List.length_set, flip_length]
theorem flip_four (p q : List UInt8) (c0 c1 c2 c3 : UInt8) (bits : UInt32) :
    flip (p ++ [c0, c1, c2, c3] ++ q) p.length bits 4 = p ++ [c0 ^^^ nth bits 0, c1 ^^^ nth bits 1, c2 ^^^ nth bits 2, c3 ^^^ nth bits 3] ++ q := by
  simp [flip, List.getD]
theorem bytes_inj {a b : UInt32} (h : ∀ k, k < 4 → nth a k = nth b k) : a = b := by
  rw [bytes4 a, bytes4 b, h 0 (by omega), h 1 (by omega), h 2 (by omega), h 3 (by omega)]
theorem split_at (l : List UInt8) (i : Nat) (h : i + 4 ≤ l.length) : ∃ p c0 c1 c2 c3 q, l = p ++ [c0, c1, c2, c3] ++ q ∧ p.length = i := by
  refine ⟨l.take i, l[i], l[i + 1], l[i + 2], l[i + 3], l.drop (i + 4), ?_, by rw [List.length_take]; omega⟩
  conv => lhs; rw [← List.take_append_drop i l]
  rw [List.append_assoc]
  congr 1
  rw [List.drop_eq_getElem_cons (by omega), List.drop_eq_getElem_cons (by omega), List.drop_eq_getElem_cons (by omega), List.drop_eq_getElem_cons (by omega)]
  rfl
end Go.Proofs.Ytiihllfjlgbfcaa.Crc
