/- The walk of a binary search over 64-bit numbers, and of block.Find. -/
import Derived.Test.YtiihllfjlgbfcaaNode
namespace Go.Proofs.Ytiihllfjlgbfcaa
open Go.RowKit
theorem less64_any (a b : UInt64) (w : World) : Calls Try.prog 139 #[.int .u64 (n64 a), .int .u64 (n64 b)] w fun e w' => e = .returned (.bool (decide (a < b))) ∧ w = w' := by
  have h := lt64 a b
  go_enter Try.func139, Try.ntmps139
  go_wp2
  all_goals (go_ret; first | exact ⟨by rw [← h]; simp_all, rfl⟩ | exact ⟨by simp_all, rfl⟩)
theorem nan64_any (a : UInt64) (w : World) : Calls Try.prog 140 #[.int .u64 (n64 a)] w fun e w' => e = .returned (.bool false) ∧ w = w' := by
  go_enter Try.func140, Try.ntmps140
  go_wp2
  go_ret
  exact ⟨by simp, rfl⟩
set_option maxRecDepth 100000 in
theorem bs64_any (a : Option Addr) (l : List UInt64) (c : Nat) (k : UInt64) (p : Nat) (q : Bool) (hq : (l[p]? == some k) = q) (w : World) (hl : l.length ≤ 1099511627776) (hrd : Rd w a (l.map b64)) (hp : p ≤ l.length)
    (hlo : ∀ i (h : i < l.length), i < p → l[i] < k) (hhi : ∀ i (h : i < l.length), p ≤ i → ¬ l[i] < k) :
    Calls Try.prog 123 #[.slice a l.length c, .int .u64 (n64 k)] w fun e w' => e = .returned (.tuple #[.int .i64 p, .bool q]) ∧ w = w' := by
  have HLO := Lib.hid hlo
  have HHI := Lib.hid hhi
  have HQ := Lib.hid hq
  clear hlo hhi hq
  go_enter Try.func123, Try.ntmps123
  go_wp2_with fail
  go_loop [7, 8] (fun x y => ∃ i j : Nat, x = .int .i64 i ∧ y = .int .i64 j ∧ i ≤ p ∧ p ≤ j ∧ j ≤ l.length) (fun x y => (intOf y - intOf x).toNat)
  case atStart => exact ⟨0, l.length, rfl, rfl, by omega, hp, by omega⟩
  case round =>
    obtain ⟨i, j, rfl, rfl, hi, hj, hjl⟩ := hrel
    by_cases hlt : i < j
    · obtain ⟨m, hm⟩ : ∃ m, m = (i + j) / 2 := ⟨_, rfl⟩
      have hm1 : i ≤ m := by omega
      have hm2 : m < j := by omega
      have hml : m < l.length := by omega
      have e1 : ((i : Int) + (j : Int)) / (2 : Int) = (m : Int) := by omega
      have e1' : ((i : Int) + (j : Int)) / 2 = (m : Int) := by omega
      have HM := Lib.hid hm
      clear hm
      obtain ⟨ad, rfl, hc⟩ := hrd m (by simpa using hml)
      simp only [List.getElem_map, b64] at hc
      go_wp2_with fail
      by_cases hmp : m < p
      · have hq : decide (l[m] < k) = true := by simp [HLO.out m hml hmp]
        refine (less64_any _ _ _).mono ?_
        rintro e w2 ⟨rfl, rfl⟩
        go_wp2_with fail
        go_round
        case rel => exact ⟨m + 1, j, by go_num, rfl, by omega, hj, hjl⟩
        case measure => simp [intOf]; omega
      · have hq : decide (l[m] < k) = false := by simp [HHI.out m hml (by omega)]
        refine (less64_any _ _ _).mono ?_
        rintro e w2 ⟨rfl, rfl⟩
        go_wp2_with fail
        go_round
        case rel => exact ⟨i, m, rfl, rfl, hi, by omega, by omega⟩
        case measure => simp [intOf]; omega
    · obtain rfl : i = p := by omega
      by_cases hpl : i < l.length
      · obtain ⟨ad, rfl, hc⟩ := hrd i (by simpa using hpl)
        simp only [List.getElem_map, b64] at hc
        have hr : (l[i]? == some k) = (l[i] == k) := by simp [hpl]
        by_cases heq : l[i] = k
        · have hq : (n64 l[i] == n64 k) = true := by simp [heq]
          obtain rfl : q = true := by rw [← HQ.out, hr]; simpa using heq
          clear heq hr
          go_wp2_with fail
          go_ret2
          exact ⟨rfl, rfl⟩
        · have hq : (n64 l[i] == n64 k) = false := by rw [n64_beq]; simpa using heq
          obtain rfl : q = false := by rw [← HQ.out, hr]; simpa using heq
          clear heq hr
          go_wp2_with fail
          refine (nan64_any _ _).mono ?_
          rintro e w2 ⟨rfl, rfl⟩
          go_wp2_with fail
          go_ret2
          exact ⟨rfl, rfl⟩
      · obtain rfl : q = false := by rw [← HQ.out]; simp [hpl]
        go_wp2_with fail
        go_ret2
        exact ⟨rfl, rfl⟩
theorem find_any (kind : Int) (birth : UInt64) (a : Option Addr) (l : List UInt64) (c : Nat) (va : Option Addr) (vn vc : Nat) (k : UInt64) (p : Nat) (q : Bool) (hq : (l[p]? == some k) = q) (w : World) (hl : l.length ≤ 1099511627776) (hrd : Rd w a (l.map b64)) (hp : p ≤ l.length)
    (hlo : ∀ i (h : i < l.length), i < p → l[i] < k) (hhi : ∀ i (h : i < l.length), p ≤ i → ¬ l[i] < k) :
    Calls Try.prog 73 #[nodeV kind birth a l.length c va vn vc, .int .u64 (n64 k)] w fun e w' => e = .returned (.tuple #[.int .i64 p, .bool q]) ∧ Below w.heap.size w w' := by
  have hg : ∀ o, GB w (w.alloc o) := fun o => (Below.refl _ _).alloc (Nat.le_refl _) o
  have HB := fun o => Lib.hid (bs64_any a l c k p q hq (w.alloc o) hl (hrd.below (hg o)) hp hlo hhi)
  clear hlo hhi hq
  unfold nodeV
  go_enter Try.func73, Try.ntmps73
  go_wp2_with fail
  refine ((HB _).out).mono ?_
  rintro e w2 ⟨rfl, rfl⟩
  go_wp2_with fail
  go_ret2
  exact ⟨rfl, hg _⟩
end Go.Proofs.Ytiihllfjlgbfcaa
