/- The closures of block.Block and block.Of: numbers put into a block and got out of it. -/
import Derived.Test.YtiihllfjlgbfcaaNode
namespace Go.Proofs.Ytiihllfjlgbfcaa
open Go.RowKit
theorem shr64 (x : UInt64) (k : Nat) : n64 x / (2 : Int) ^ (8 * k) = n64 (Num.dn k x) := by
  unfold n64
  rw [Num.dn_toNat, show (2 : Int) ^ (8 * k) = ((256 ^ k : Nat) : Int) by rw [Int.pow_mul]; simp]
  simp
theorem nth64 (x : UInt64) (k : Nat) : n64 x / (2 : Int) ^ (8 * k) % (256 : Int) = n8 (Num.dn k x % 256).toUInt8 := by
  rw [shr64, u64_u8]
  congr 1
  rw [← UInt8.toNat_inj, UInt64.toNat_toUInt8, UInt64.toNat_toUInt8, UInt64.toNat_mod]
  simp
theorem low_succ (k : Nat) (x : UInt64) : Num.low (k + 1) x = Num.low k x ++ [(Num.dn k x % 256).toUInt8] := rfl
set_option maxRecDepth 100000 in
theorem nput_any (x : UInt64) (s : Nat) (g h at_ : Nat) (C : List UInt8) (w : World) (B : Nat) (hs : s ≤ 8) (hgh : g ≠ h) (hBg : B ≤ g) (hBh : B ≤ h) (hC : C.length = 256) (hat : at_ + s ≤ 256) (hB : Blk w g 37 (C.map b8)) (hA : Blk w h 3 [.int .i64 at_]) :
    Calls Try.prog 119 #[.int .u64 (n64 x), .int .i64 s, .pointer (some ⟨g, 0, none⟩), .pointer (some ⟨h, 0, none⟩)] w fun e w' => e = .returned (.tuple #[]) ∧ Blk w' g 37 ((put C at_ (Num.low s x)).map b8) ∧ Blk w' h 3 [.int .i64 ((at_ + s : Nat) : Int)] ∧ Below B w w' := by
  have HC := Lib.hid hC
  clear hC
  go_enter Try.func119, Try.ntmps119
  go_wp2_with fail
  go_loopw [8] (fun y wr => ∃ k : Nat, k ≤ s ∧ y = .int .i64 k ∧ Blk wr g 37 ((put C at_ (Num.low k x)).map b8) ∧ Blk wr h 3 [.int .i64 at_] ∧ Below B w wr) (fun y _ => s - (intOf y).toNat)
  case atStart => exact ⟨0, by omega, rfl, by rw [show Num.low 0 x = [] from rfl, put_nil]; exact hB, hA, Below.refl _ _⟩
  case round =>
    obtain ⟨k, hk, rfl, hBk, hAk, hb⟩ := hrel
    have hA0 := hAk.cell 0
    have hAf := hAk.frozen 0
    have hll := Num.low_length k x
    have hpl : (put C at_ (Num.low k x)).length = 256 := by rw [put_length _ _ _ (by rw [HC.out]; omega)]; exact HC.out
    by_cases hlt : k < s
    · obtain ⟨x0, hcell⟩ := hBk.cell8 (at_ + k) (by omega)
      have hfz := hBk.frozen (at_ + k)
      have e1 := put_end C at_ (Num.low k x) (at_ + k) (by omega) (Num.dn k x % 256).toUInt8 (by rw [HC.out]; omega)
      rw [← low_succ] at e1
      have E1 := Lib.hid e1
      have HB := Lib.hid hBk
      have HA := Lib.hid hAk
      clear e1 hpl hll hBk hAk hB hA
      have A0 : ∀ u, GB wr.drew u → u.cell? ⟨h, 0, none⟩ = some (.int .i64 at_) := fun u hu => hu.cell (hA0.trans rfl)
      have w1 : IntKind.i64.wrap ((at_ : Int) + k) = at_ + k := wrapi _ (by omega) (by omega)
      have w2 : IntKind.i64.wrap (8 * (k : Int)) = 8 * k := wrapi _ (by omega) (by omega)
      have w3 : IntKind.i64.wrap (k : Int) = k := wrapi _ (by omega) (by omega)
      have l3 : IntKind.u8.wrap (n64 x / 2 ^ (8 * k)) = n8 (Num.dn k x % 256).toUInt8 := nth64 x k
      have t1 : (8 * (k : Int)).toNat = 8 * k := by omega
      have t2 : ((at_ : Int) + k).toNat = at_ + k := by omega
      have c1 : 0 ≤ (at_ : Int) + k := by omega
      have c2 : (at_ : Int) + k < 256 := by omega
      go_wp2_with fail
      refine region_gb [(0,0),(1,0),(2,0),(3,0),(4,0),(5,0),(6,0),(7,0),(8,2),(9,2)] [8,9] (by kernel_rfl) ?_
      repeat (refine S0w (v := ?_) (by rfl) (by rfl) (fun u hu N hN => ?_) ?_; rotate_left; (go_simp; exact hN); simp only [Act.put, List.setIfInBounds_toArray, List.set_cons_zero, List.set_cons_succ])
      refine S2 (by rfl) (by rfl) (fun K hK => ?_)
      go_wp2_with fail
      refine S2 (by rfl) (by rfl) (fun K hK => ?_)
      go_wp2_with fail
      refine S.done ?_
      go_wp2_with fail
      go_roundw
      case rel => exact ⟨k + 1, by omega, by go_num, by rw [← E1.out]; exact Blk.set8 (Blk.gb HB.out (GB.drew _)) _ _, Blk.other (Blk.gb HA.out (GB.drew _)) hgh _ _, hb.drew.setCell hBg _⟩
      case measure => simp [intOf]; omega
    · obtain rfl : k = s := by omega
      have HB := Lib.hid hBk
      have w1 : IntKind.i64.wrap ((at_ : Int) + k) = at_ + k := wrapi _ (by omega) (by omega)
      have hA1 := Lib.hid (hAk.set 0 (.int .i64 ((at_ : Int) + k)))
      clear hBk hAk hB hA
      go_wp2_with fail
      go_end0
      exact ⟨rfl, Blk.other HB.out (Ne.symm hgh) _ _, hA1.out, hb.setCell hBh _⟩
namespace Num
def nat (l : List UInt8) : Nat := l.foldr (fun b n => b.toNat + 256 * n) 0
theorem nat_lt (l : List UInt8) : nat l < 256 ^ l.length := by
  induction l with
  | nil => simp [nat]
  | cons b l ih =>
    have := b.toNat_lt
    simp only [nat, List.foldr_cons, List.length_cons, Nat.pow_succ] at *
    omega
theorem nat_snoc (l : List UInt8) (c : UInt8) : nat (l ++ [c]) = nat l + c.toNat * 256 ^ l.length := by
  induction l with
  | nil => simp [nat]
  | cons b l ih =>
    simp only [nat, List.cons_append, List.foldr_cons, List.length_cons, Nat.pow_succ] at *
    rw [ih, Nat.mul_add, Nat.add_assoc, ← Nat.mul_assoc, ← Nat.mul_assoc, Nat.mul_comm 256 (c.toNat), Nat.mul_assoc c.toNat 256, Nat.mul_assoc c.toNat, Nat.mul_comm 256 (256 ^ l.length)]
theorem num_toNat (l : List UInt8) (h : l.length ≤ 8) : (num l).toNat = nat l := by
  induction l with
  | nil => rfl
  | cons b l ih =>
    have hl := nat_lt (b :: l)
    have hp : 256 ^ (b :: l).length ≤ 256 ^ 8 := Nat.pow_le_pow_right (by omega) h
    have e : num (b :: l) = num l * 256 + b.toUInt64 := rfl
    have e2 : nat (b :: l) = b.toNat + 256 * nat l := rfl
    rw [e, UInt64.toNat_add, UInt64.toNat_mul, ih (by simp at h; omega), UInt8.toNat_toUInt64, e2]
    rw [e2] at hl
    have h256 : UInt64.toNat 256 = 256 := rfl
    rw [h256]
    omega
end Num
theorem or64_snoc (l : List UInt8) (c : UInt8) (k : Nat) (hk : l.length = k) (h : k < 8) : bits .or .u64 (n64 (Num.num l)) (IntKind.u64.wrap (n64 c.toUInt64 * 2 ^ (8 * k))) = n64 (Num.num (l ++ [c])) := by
  subst hk
  have hl := Num.nat_lt l
  have hs := Num.nat_snoc l c
  have hsl := Num.nat_lt (l ++ [c])
  have hp : 256 ^ (l ++ [c]).length ≤ 256 ^ 8 := Nat.pow_le_pow_right (by omega) (by simp; omega)
  have hw : IntKind.u64.wrap (n64 c.toUInt64 * 2 ^ (8 * l.length)) = ((c.toNat * 256 ^ l.length : Nat) : Int) := by
    show n64 c.toUInt64 * 2 ^ (8 * l.length) % 18446744073709551616 = _
    unfold n64
    have hp2 : (2 : Int) ^ (8 * l.length) = ((256 ^ l.length : Nat) : Int) := by rw [Int.pow_mul]; simp
    rw [UInt8.toNat_toUInt64, hp2]
    generalize 256 ^ l.length = p at *
    rw [← Int.natCast_mul]
    omega
  rw [hw]
  unfold n64
  rw [Num.num_toNat l (by omega), Num.num_toNat (l ++ [c]) (by simp; omega), u64_or_nat _ _ (by omega) (by omega), hs]
  congr 1
  rw [Nat.or_comm, Nat.add_comm, show 256 ^ l.length = 2 ^ (8 * l.length) by rw [Nat.pow_mul], ← Nat.shiftLeft_eq]
  exact (Nat.shiftLeft_add_eq_or_of_lt (by rw [Nat.pow_mul]; exact hl) _).symm
set_option maxRecDepth 100000 in
theorem nget_any (g h at_ : Nat) (C : List UInt8) (w : World) (B : Nat) (hBh : B ≤ h) (hgh : g ≠ h) (hC : C.length = 256) (hat : at_ + 8 ≤ 256) (hB : Blk w g 37 (C.map b8)) (hA : Blk w h 3 [.int .i64 at_]) :
    Calls Try.prog 120 #[.pointer (some ⟨g, 0, none⟩), .pointer (some ⟨h, 0, none⟩)] w fun e w' => e = .returned (.int .u64 (n64 (Num.num ((C.drop at_).take 8)))) ∧ Blk w' g 37 (C.map b8) ∧ Blk w' h 3 [.int .i64 ((at_ + 8 : Nat) : Int)] ∧ Below B w w' := by
  have HC := Lib.hid hC
  clear hC
  go_enter Try.func120, Try.ntmps120
  go_wp2_with fail
  go_loopw [2, 4] (fun x y wr => ∃ k : Nat, k ≤ 8 ∧ y = .int .i64 k ∧ x = .int .u64 (n64 (Num.num ((C.drop at_).take k))) ∧ w = wr) (fun _ y _ => 8 - (intOf y).toNat)
  case atStart => exact ⟨0, by omega, rfl, rfl, rfl⟩
  case round =>
    obtain ⟨k, hk, rfl, rfl, rfl⟩ := hrel
    have hA0 := hA.cell 0
    have hAf := hA.frozen 0
    by_cases hlt : k < 8
    · have hi : at_ + k < C.length := by rw [HC.out]; omega
      have hc := hB.get8 (at_ + k) hi
      have e2 : (C.drop at_).take (k + 1) = (C.drop at_).take k ++ [C[at_ + k]'hi] := by
        rw [List.take_succ_eq_append_getElem (by rw [List.length_drop]; omega), List.getElem_drop]
      have e1 := fun hl => or64_snoc ((C.drop at_).take k) (C[at_ + k]'hi) k hl hlt
      replace e1 := e1 (by rw [List.length_take, List.length_drop]; omega)
      generalize C[at_ + k]'hi = c at *
      have E2 := Lib.hid e2
      clear hi e2
      have l1 := w8_64
      go_wp2_with fail
      go_roundw
      case rel => exact ⟨k + 1, by omega, by go_num, by rw [E2.out], trivial⟩
      case measure => simp [intOf]; omega
    · obtain rfl : k = 8 := by omega
      go_wp2_with fail
      go_ret
      exact ⟨rfl, hB.other (Ne.symm hgh) _ _, hA.set 0 _, (Below.refl _ _).setCell hBh _⟩
end Go.Proofs.Ytiihllfjlgbfcaa
