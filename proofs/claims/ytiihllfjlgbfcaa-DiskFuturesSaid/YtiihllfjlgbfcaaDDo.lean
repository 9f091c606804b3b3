/- The walks of the law's small helpers: Full, num, small, do. -/
import Derived.Test.YtiihllfjlgbfcaaRDo3
namespace Go.Proofs.Ytiihllfjlgbfcaa
open Go.RowKit
def full (c : UInt8) : List UInt8 := List.replicate 64 c
theorem full_length (c : UInt8) : (full c).length = 64 := List.length_replicate
theorem num_any (n : Int) (w : World) : Calls Try.prog 38 #[.int .i64 n] w fun e w' => e = .returned (.int .i64 n) ∧ w = w' := by
  go_enter Try.func38, Try.ntmps38
  go_wp2_with fail
  go_ret
  exact ⟨rfl, rfl⟩
def fullUp (c : UInt8) (k : Nat) : List UInt8 := List.replicate k c ++ zeros (64 - k)
theorem fullUp_length (c : UInt8) (k : Nat) (h : k ≤ 64) : (fullUp c k).length = 64 := by simp [fullUp, zeros]; omega
theorem fullUp_succ (c : UInt8) (k : Nat) (h : k < 64) : (fullUp c k).set k c = fullUp c (k + 1) := by
  apply List.ext_getElem
  · simp [fullUp, zeros]; omega
  · intro i h1 h2
    simp only [List.length_set] at h1
    simp only [fullUp, zeros, List.getElem_set, List.getElem_append, List.length_replicate, List.getElem_replicate]
    by_cases hik : k = i
    · subst hik; simp
    · by_cases hlt : i < k
      · simp [hik, hlt, show i < k + 1 by omega]
      · simp [hik, hlt, show ¬ i < k + 1 by omega]
set_option maxRecDepth 100000 in
theorem full_any (c : UInt8) (w : World) : Calls Try.prog 83 #[.int .u8 (n8 c)] w fun e w' => e = .returned (arr (full c)) ∧ GB w w' := by
  have hz := Lib.hid (zeros_length 64)
  go_enter Try.func83, Try.ntmps83
  go_wp2_with (first | with_reducible refine halt_alloc 59 ?_)
  refine L.alloc rfl zero59 (by rfl) ?_
  intro w1 hA hG1
  simp only [Act.put, List.setIfInBounds_toArray, List.set_cons_zero, List.set_cons_succ]
  go_wp2_with (first | with_reducible refine halt_build 59 ?_ | with_reducible refine halt_alloc 59 ?_ | with_reducible refine halt_store 59 ?_)
  refine L.val (by rfl) (X.build59 rfl) ?_
  simp only [Act.put, List.setIfInBounds_toArray, List.set_cons_zero, List.set_cons_succ]
  go_wp2_with (first | with_reducible refine halt_build 59 ?_ | with_reducible refine halt_alloc 59 ?_ | with_reducible refine halt_store 59 ?_)
  refine L.alloc rfl zero59 (by rfl) ?_
  intro w2 hB hG2
  simp only [Act.put, List.setIfInBounds_toArray, List.set_cons_zero, List.set_cons_succ]
  go_wp2_with (first | with_reducible refine halt_build 59 ?_ | with_reducible refine halt_alloc 59 ?_ | with_reducible refine halt_store 59 ?_)
  refine L.store rfl info59 (by rfl) (by rfl) hB (by rw [List.length_map]; exact hz.out) hz.out (by rfl) ?_
  intro w3 hB3 hG3
  simp only [Act.put]
  have hA2 := (hA.gb hG2).grown hG3 (fun e => by have := Option.some.inj e; have := hA.lt; omega)
  have hlt1 := hA.lt
  have hb3 : GB w w3 := Below.grown (GB.trans _ _ _ hG1 hG2) hG3 (GB.trans _ _ _ hG1 hG2).size (fun j hj => by rw [← Option.some.inj hj]; exact hG1.size)
  clear hA hB hG3
  go_wp2_with fail
  go_loopw [4] (fun x wr => ∃ k : Nat, x = .int .i64 k ∧ k ≤ 64 ∧ Blk wr w1.heap.size 59 ((fullUp c k).map b8) ∧ Blk wr w.heap.size 59 ((zeros 64).map b8) ∧ GB w wr) (fun x _ => 64 - (intOf x).toNat)
  case atStart => exact ⟨0, rfl, by omega, by simpa [fullUp] using hB3, hA2, hb3⟩
  case round =>
    obtain ⟨k, rfl, hk, hB, hA, hb⟩ := hrel
    by_cases hlt : k < 64
    · have hfl := fullUp_length c k (by omega)
      have hc := (hB.cell8 k (by omega))
      obtain ⟨xx, hxx⟩ := hc
      have hfz := hB.frozen k
      have hset := hB.set8 k c
      rw [fullUp_succ c k hlt] at hset
      have hA' := hA.other (k := w1.heap.size) (by omega) k (.int .u8 (n8 c))
      have hb' : GB w (wr.setCell ⟨w1.heap.size, k, none⟩ (.int .u8 (n8 c))) := Below.setCell hb (show w.heap.size ≤ (⟨w1.heap.size, k, none⟩ : Addr).block by exact hG1.size) _
      clear hfl
      go_wp2_with fail
      go_roundw
      case rel => exact ⟨k + 1, by go_num, by omega, hset, hA', hb'⟩
      case measure => simp [intOf]; omega
    · obtain rfl : k = 64 := by omega
      have hfu : fullUp c 64 = full c := by simp [fullUp, full, zeros]
      rw [hfu] at hB
      have HFL := Lib.hid (full_length c)
      clear hfu
      go_wp2_with (first | with_reducible refine halt_load 59 ?_ | with_reducible refine halt_store 59 ?_)
      refine L.load rfl Try.underlying59 info59 (by rfl) hB HFL.out (by rfl) ?_
      simp only [Act.put, List.setIfInBounds_toArray, List.set_cons_zero, List.set_cons_succ]
      refine L.store rfl info59 (by rfl) (by rfl) hA (by rw [List.length_map]; exact hz.out) HFL.out (by rfl) ?_
      intro w5 hA5 hG5
      simp only [Act.put]
      go_wp2_with fail
      refine ret_cell1 rfl (by rfl) Try.underlying59 info59 hA5 HFL.out rfl ?_
      exact ⟨rfl, Below.grown hb hG5 (Below.size hb) (fun j hj => by cases hj; exact Nat.le_refl _)⟩
end Go.Proofs.Ytiihllfjlgbfcaa
