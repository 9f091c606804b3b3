/- The walks of crc and of its reference: each function by its contract. -/
import Derived.Test.YtiihllfjlgbfcaaProg
import Derived.Test.YtiihllfjlgbfcaaCrcFn
namespace Go.Proofs.Ytiihllfjlgbfcaa
open Go.RowKit

theorem ret32 {a b : UInt32} (h : a = b) : Ending.returned (.int .u32 (n32 a)) = .returned (.int .u32 (n32 b)) := by rw [h]

theorem half_any (r : UInt32) (b : Nat) (w : World) (hc : w.cell? ⟨b, 0, none⟩ = some (.int .u32 (n32 r))) (hf : w.frozen? ⟨b, 0, none⟩ = false) :
    Calls Try.prog 130 #[.pointer (some ⟨b, 0, none⟩)] w fun e w' => e = .returned (.tuple #[]) ∧ w' = w.setCell ⟨b, 0, none⟩ (.int .u32 (n32 (Crc.half r))) := by
  have l1 := shr32_1
  have l2 := and32_1
  have l3 := neg32
  have l4 : ∀ a, bits .and .u32 2197175160 (n32 a) = n32 (2197175160 &&& a) := and32 2197175160
  have l5 := xor32
  go_enter Try.func130, Try.ntmps130
  go_wp2
  go_end0
  exact ⟨rfl, rfl⟩

theorem entry_any (r : UInt32) (w : World) :
    Calls Try.prog 94 #[.int .u32 (n32 r)] w fun e w' => e = .returned (.int .u32 (n32 (Crc.eight r))) ∧ Below w.heap.size w w' := by
  go_enter Try.func94, Try.ntmps94
  go_wp2_with fail
  go_loopw [5] (fun i wr => ∃ k : Nat, k ≤ 8 ∧ i = .int .i64 k ∧ wr = w.alloc (.cells #[.int .u32 (n32 (Crc.halfN k r))] 23)) (fun i _ => 8 - (intOf i).toNat)
  case atStart => exact ⟨0, by omega, rfl, rfl⟩
  case round =>
    obtain ⟨k, hk, rfl, rfl⟩ := hrel
    by_cases hlt : k < 8
    · go_wp2_with (go_at_call 130; refine (half_any (Crc.halfN k r) _ _ (by simp) (by simp)).mono ?_; rintro e w' ⟨rfl, rfl⟩)
      go_roundw
      case rel => exact ⟨k + 1, by omega, by go_num, by simp [Crc.halfN]⟩
      case measure => simp [intOf]; omega
    · go_wp2_with fail
      go_ret
      exact ⟨ret32 (by rw [show k = 8 by omega]; rfl), (Below.refl _ _).alloc (Nat.le_refl _) _⟩

theorem eight_any (r : UInt32) (w : World) :
    Calls Try.prog 95 #[.int .u32 (n32 r)] w fun e w' => e = .returned (.int .u32 (n32 (Crc.eight r))) ∧ w = w' := by
  go_enter Try.func95, Try.ntmps95
  go_wp2_with fail
  go_loop [0, 3] (fun r' i => ∃ k : Nat, k ≤ 8 ∧ i = .int .i64 k ∧ r' = .int .u32 (n32 (Crc.halfN k r))) (fun _ i => 8 - (intOf i).toNat)
  case atStart => exact ⟨0, by omega, rfl, rfl⟩
  case round =>
    obtain ⟨k, hk, rfl, rfl⟩ := hrel
    by_cases hlt : k < 8
    · have hp := n32_range (Crc.halfN k r)
      have l1 := shr32_1
      have l5 : ∀ a, bits .xor .u32 (n32 a) 2197175160 = n32 (a ^^^ 2197175160) := fun a => xor32 a 2197175160
      by_cases hb : (Crc.halfN k r).toNat % 2 = 1
      · have h1 : (n32 (Crc.halfN k r) % 2 == 1) = true := by unfold n32; simp; omega
        go_wp2_with fail
        go_round
        case rel => exact ⟨k + 1, by omega, by go_num, by rw [Crc.halfN, Crc.half_odd _ hb]⟩
        case measure => simp [intOf]; omega
      · have h1 : (n32 (Crc.halfN k r) % 2 == 1) = false := by unfold n32; simp; omega
        go_wp2_with fail
        go_round
        case rel => exact ⟨k + 1, by omega, by go_num, by rw [Crc.halfN, Crc.half_even _ (by omega), ← shr32_1]⟩
        case measure => simp [intOf]; omega
    · go_wp2_with fail
      go_ret
      exact ⟨ret32 (by rw [show k = 8 by omega]; rfl), rfl⟩

theorem add_any (s : UInt32) (a : Option Addr) (l : List UInt8) (c : Nat) (w : World) (hl : l.length ≤ maxLen) (hrd : Rd w a (l.map b8)) :
    Calls Try.prog 23 #[.int .u32 (n32 s), .slice a l.length c] w fun e w' => e = .returned (.int .u32 (n32 (Crc.add s l))) ∧ Below w.heap.size w w' := by
  unfold maxLen at hl
  have l1 : ∀ a, bits .xor .u32 IntKind.u32.max (n32 a) = n32 (~~~a) := not32
  go_enter Try.func23, Try.ntmps23
  go_wp2_with fail
  go_loopw [5, 12] (fun r i wr => ∃ k : Nat, k ≤ l.length ∧ i = .int .i64 k ∧ r = .int .u32 (n32 (Crc.run (~~~s) (l.take k))) ∧ Below w.heap.size w wr) (fun _ i _ => l.length - (intOf i).toNat)
  case atStart => exact ⟨0, by omega, rfl, rfl, Below.refl _ _⟩
  case round =>
    obtain ⟨k, hk, rfl, rfl, hb⟩ := hrel
    by_cases hlt : k < l.length
    · obtain ⟨ad, rfl, hcell⟩ := (hrd.below hb) k (by simpa using hlt)
      simp only [List.getElem_map, b8] at hcell
      have l2 := shr32_8
      have l3 := and32_255
      have l4 := xor32
      have l5 := u8_u32
      go_wp2_with (go_at_call 94; refine (entry_any _ _).mono ?_; rintro e w' ⟨rfl, hb'⟩)
      go_roundw
      case rel => exact ⟨k + 1, by omega, by go_num, by rw [Crc.run_take_succ _ _ _ hlt, Crc.step_table], hb.trans (hb'.mono hb.size)⟩
      case measure => simp [intOf]; omega
    · go_wp2_with fail
      go_ret
      exact ⟨ret32 (by rw [Crc.add, List.take_of_length_le (by omega)]), hb⟩

theorem sum_any (a : Option Addr) (l : List UInt8) (c : Nat) (w : World) (hl : l.length ≤ maxLen) (hrd : Rd w a (l.map b8)) :
    Calls Try.prog 21 #[.slice a l.length c] w fun e w' => e = .returned (.int .u32 (n32 (Crc.sum l))) ∧ Below w.heap.size w w' := by
  go_enter Try.func21, Try.ntmps21
  go_wp2_with (go_at_call 23; refine (add_any 0 _ _ _ _ hl hrd).mono ?_; rintro e w' ⟨rfl, hb'⟩)
  go_ret
  exact ⟨rfl, hb'⟩

theorem run_any (s : UInt32) (a : Option Addr) (l : List UInt8) (c : Nat) (w : World) (hl : l.length ≤ maxLen) (hrd : Rd w a (l.map b8)) :
    Calls Try.prog 93 #[.int .u32 (n32 s), .slice a l.length c] w fun e w' => e = .returned (.int .u32 (n32 (Crc.run s l))) ∧ w = w' := by
  unfold maxLen at hl
  go_enter Try.func93, Try.ntmps93
  go_wp2_with fail
  go_loop [0, 5] (fun r i => ∃ k : Nat, k ≤ l.length ∧ i = .int .i64 k ∧ r = .int .u32 (n32 (Crc.run s (l.take k)))) (fun _ i => l.length - (intOf i).toNat)
  case atStart => exact ⟨0, by omega, rfl, rfl⟩
  case round =>
    obtain ⟨k, hk, rfl, rfl⟩ := hrel
    by_cases hlt : k < l.length
    · obtain ⟨ad, rfl, hcell⟩ := hrd k (by simpa using hlt)
      simp only [List.getElem_map, b8] at hcell
      have l4 := xor32
      have l5 := u8_u32
      go_wp2_with (go_at_call 95; refine (eight_any _ _).mono ?_; rintro e w' ⟨rfl, rfl⟩)
      go_round
      case rel => exact ⟨k + 1, by omega, by go_num, by rw [Crc.run_take_succ _ _ _ hlt, Crc.step]⟩
      case measure => simp [intOf]; omega
    · go_wp2_with fail
      go_ret
      exact ⟨ret32 (by rw [List.take_of_length_le (by omega)]), rfl⟩

theorem radd_any (s : UInt32) (a : Option Addr) (l : List UInt8) (c : Nat) (w : World) (hl : l.length ≤ maxLen) (hrd : Rd w a (l.map b8)) :
    Calls Try.prog 24 #[.int .u32 (n32 s), .slice a l.length c] w fun e w' => e = .returned (.int .u32 (n32 (Crc.add s l))) ∧ w = w' := by
  have e1 : ∀ x, (4294967295 - n32 x) = n32 (~~~x) := sub32
  have e2 := mod32
  go_enter Try.func24, Try.ntmps24
  go_wp2_with (go_at_call 93; refine (run_any (~~~s) _ _ _ _ hl hrd).mono ?_; rintro e w' ⟨rfl, rfl⟩)
  go_ret
  exact ⟨congrArg (fun x => Ending.returned (.int .u32 x)) (mod32 _), rfl⟩
theorem rsum_any (a : Option Addr) (l : List UInt8) (c : Nat) (w : World) (hl : l.length ≤ maxLen) (hrd : Rd w a (l.map b8)) :
    Calls Try.prog 22 #[.slice a l.length c] w fun e w' => e = .returned (.int .u32 (n32 (Crc.sum l))) ∧ w = w' := by
  have e1 : ∀ x, (4294967295 - n32 x) = n32 (~~~x) := sub32
  have H := run_any 4294967295 a l c w hl hrd
  rw [n32_ones] at H
  go_enter Try.func22, Try.ntmps22
  go_wp2_with (go_at_call 93; refine H.mono ?_; rintro e w' ⟨rfl, rfl⟩)
  go_ret
  exact ⟨congrArg (fun x => Ending.returned (.int .u32 x)) (mod32 _), rfl⟩
theorem table_any (i : Int) (w : World) :
    Calls Try.prog 25 #[.int .i64 i] w fun e w' => e = .returned (.int .u32 (n32 (Crc.table i))) ∧ Below w.heap.size w w' := by
  by_cases h0 : i < 0
  · go_enter Try.func25, Try.ntmps25
    go_wp2_with fail
    go_ret
    refine ⟨?_, Below.refl _ _⟩
    rw [Crc.table, if_pos (.inl h0)]; rfl
  · by_cases h1 : 255 < i
    · go_enter Try.func25, Try.ntmps25
      go_wp2_with fail
      go_ret
      refine ⟨?_, Below.refl _ _⟩
      rw [Crc.table, if_pos (.inr h1)]; rfl
    · obtain ⟨k, rfl⟩ := Int.eq_ofNat_of_zero_le (show 0 ≤ i by omega)
      have hk := n32_ofNat k (by omega)
      have H := entry_any (UInt32.ofNat k) w
      rw [hk] at H
      clear hk
      go_enter Try.func25, Try.ntmps25
      go_wp2_with (go_at_call 94; refine H.mono ?_; rintro e w' ⟨rfl, hb⟩)
      go_ret
      refine ⟨?_, hb⟩
      rw [Crc.table, if_neg (by omega)]; rfl
theorem rtable_any (i : Int) (w : World) :
    Calls Try.prog 26 #[.int .i64 i] w fun e w' => e = .returned (.int .u32 (n32 (Crc.table i))) ∧ w = w' := by
  by_cases h0 : i < 0
  · go_enter Try.func26, Try.ntmps26
    go_wp2_with fail
    go_ret
    refine ⟨?_, rfl⟩
    rw [Crc.table, if_pos (.inl h0)]; rfl
  · by_cases h1 : 255 < i
    · go_enter Try.func26, Try.ntmps26
      go_wp2_with fail
      go_ret
      refine ⟨?_, rfl⟩
      rw [Crc.table, if_pos (.inr h1)]; rfl
    · obtain ⟨k, rfl⟩ := Int.eq_ofNat_of_zero_le (show 0 ≤ i by omega)
      have hk := n32_ofNat k (by omega)
      have H := eight_any (UInt32.ofNat k) w
      rw [hk] at H
      clear hk
      go_enter Try.func26, Try.ntmps26
      go_wp2_with (go_at_call 95; refine H.mono ?_; rintro e w' ⟨rfl, rfl⟩)
      go_ret
      refine ⟨?_, rfl⟩
      rw [Crc.table, if_neg (by omega)]; rfl
end Go.Proofs.Ytiihllfjlgbfcaa
