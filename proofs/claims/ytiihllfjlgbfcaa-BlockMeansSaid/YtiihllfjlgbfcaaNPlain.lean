/- The plain law of nodes: what a node's block says is that node. -/
import Derived.Test.YtiihllfjlgbfcaaRNOf
namespace Go.Proofs.Ytiihllfjlgbfcaa
open Go.RowKit
theorem nat_low (x : UInt64) : ∀ k, Num.nat (Num.low k x) = x.toNat % 256 ^ k
  | 0 => by simp [Num.low, Num.nat, Nat.mod_one]
  | k + 1 => by
    rw [low_succ, Num.nat_snoc, Num.low_length, nat_low x k, Num.byte, Nat.pow_succ, Nat.mod_mul]
    rw [Nat.mul_comm]
theorem num_low8 (x : UInt64) : Num.num (Num.low 8 x) = x := by
  rw [← UInt64.toNat_inj, Num.num_toNat _ (by rw [Num.low_length]; omega), nat_low]
  exact Nat.mod_eq_of_lt x.toNat_lt
theorem node_drop (no : UInt32) (kind : Int) (birth : UInt64) (ks vs : List UInt64) (h : (nodeHead no kind birth ks.length ++ pairs ks vs).length ≤ 252) (j : Nat) :
    (nodeBlock no kind birth ks vs).drop (4 + j) = ((nodeHead no kind birth ks.length ++ pairs ks vs) ++ zeros (252 - (nodeHead no kind birth ks.length ++ pairs ks vs).length)).drop j := by
  unfold nodeBlock summed
  rw [← List.drop_drop, List.drop_append_of_le_length (by rw [tail_length]; omega), List.drop_of_length_le (l := Crc.tail _) (by rw [tail_length]; omega), List.nil_append]
  congr 1
  unfold pad
  rw [List.take_append, List.take_of_length_le h]
  congr 1
  unfold zeros
  rw [List.take_replicate]
  congr 1
  omega
theorem pairs_drop : ∀ (ks vs : List UInt64) (j : Nat), ks.length = vs.length → (pairs ks vs).drop (16 * j) = pairs (ks.drop j) (vs.drop j)
  | ks, vs, 0, _ => by simp
  | [], [], j + 1, _ => by simp [pairs]
  | k :: ks, v :: vs, j + 1, h => by
    have hl : (Num.low 8 k ++ Num.low 8 v).length = 16 := by simp [Num.low_length]
    rw [show 16 * (j + 1) = 16 + 16 * j by omega, pairs, ← List.drop_drop, List.drop_left' hl, pairs_drop ks vs j (by simpa using h)]
    rfl
  | [], _ :: _, _ + 1, h => by simp at h
  | _ :: _, [], _ + 1, h => by simp at h
theorem i8_n8 (i : Int) (h0 : 0 ≤ i) (h1 : i ≤ 255) : n8 (i8 i) = i := by
  unfold n8 i8; simp; omega
theorem ofN_node (no : UInt32) (kind : Int) (birth : UInt64) (ks vs : List UInt64) (hm : mayN kind ks vs.length = true) : ofN no (nodeBlock no kind birth ks vs) = ⟨kind, birth, ks, vs, 0⟩ := by
  have h2 := hm
  unfold mayN at h2
  simp only [Bool.and_eq_true, decide_eq_true_eq, beq_iff_eq] at h2
  obtain ⟨⟨⟨⟨hk1, hk3⟩, hl⟩, hv⟩, -⟩ := h2
  have hX : (nodeHead no kind birth ks.length ++ pairs ks vs).length = 16 + 16 * ks.length := by rw [List.length_append, nodeHead_length, pairs_length ks vs hv.symm]
  have hd := node_drop no kind birth ks vs (by omega)
  have hget : ∀ j, (nodeBlock no kind birth ks vs).getD (4 + j) 0 = ((nodeHead no kind birth ks.length ++ pairs ks vs) ++ zeros (252 - (nodeHead no kind birth ks.length ++ pairs ks vs).length)).getD j 0 := fun j => by
    have := congrArg (fun l => l.getD 0 0) (hd j)
    simpa [List.getD] using this
  have ek : kindOf (nodeBlock no kind birth ks vs) = kind := by
    unfold kindOf; rw [hget 0]; exact i8_n8 kind (by omega) (by omega)
  have em : manyOf (nodeBlock no kind birth ks vs) = ks.length := by
    unfold manyOf; rw [hget 1]
    have : (i8 (ks.length : Int)).toNat = ks.length := i8_small _ hl _ rfl
    show min (i8 (ks.length : Int)).toNat 6 = _
    omega
  have eb : birthOf (nodeBlock no kind birth ks vs) = birth := by
    unfold birthOf
    rw [hd 8]
    have e : (nodeHead no kind birth ks.length ++ pairs ks vs) ++ zeros (252 - (nodeHead no kind birth ks.length ++ pairs ks vs).length) = ([i8 kind, i8 ks.length, 0, 0] ++ Crc.tail no) ++ (Num.low 8 birth ++ (pairs ks vs ++ zeros (252 - (nodeHead no kind birth ks.length ++ pairs ks vs).length))) := by
      simp only [nodeHead, List.append_assoc]
    rw [e, List.drop_left' (by rfl), List.take_left' (Num.low_length _ _), num_low8]
  have ep : ∀ j (hj : j < ks.length) (hj' : j < vs.length), ∃ r, (nodeBlock no kind birth ks vs).drop (20 + 16 * j) = Num.low 8 ks[j] ++ (Num.low 8 vs[j] ++ r) := fun j hj hj' => by
    refine ⟨pairs (ks.drop (j + 1)) (vs.drop (j + 1)) ++ zeros (252 - (nodeHead no kind birth ks.length ++ pairs ks vs).length), ?_⟩
    rw [show 20 + 16 * j = 4 + (16 + 16 * j) by omega, hd, ← List.drop_drop, List.append_assoc, List.drop_left' (nodeHead_length _ _ _ _), List.drop_append_of_le_length (by rw [pairs_length ks vs hv.symm]; omega), pairs_drop ks vs j hv.symm,
      List.drop_eq_getElem_cons hj, List.drop_eq_getElem_cons hj']
    simp only [pairs, List.append_assoc]
  have eks : keysOf (nodeBlock no kind birth ks vs) ks.length = ks := by
    apply List.ext_getElem
    · simp [keysOf]
    · intro j h1 h3
      obtain ⟨r, hr⟩ := ep j h3 (by omega)
      simp only [keysOf, List.getElem_map, List.getElem_range, keyAt]
      rw [hr, List.take_left' (Num.low_length _ _), num_low8]
  have evs : valsOf (nodeBlock no kind birth ks vs) ks.length = vs := by
    apply List.ext_getElem
    · simp [valsOf, hv]
    · intro j h1 h3
      obtain ⟨r, hr⟩ := ep j (by omega) h3
      simp only [valsOf, List.getElem_map, List.getElem_range, valAt]
      rw [← List.drop_drop, hr, List.drop_left' (Num.low_length _ _), List.take_left' (Num.low_length _ _), num_low8]
  have hok : okN no (nodeBlock no kind birth ks vs) = true := by
    unfold okN
    rw [ek, em, eb, eks, evs]
    rw [hv] at hm
    simp [hm]
  unfold ofN
  rw [if_pos hok, ek, em, eb, eks, evs]
end Go.Proofs.Ytiihllfjlgbfcaa
