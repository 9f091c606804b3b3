/- The walk of page.Block. -/
import Derived.Test.YtiihllfjlgbfcaaRBlock
import Derived.Test.YtiihllfjlgbfcaaCopy8
namespace Go.Proofs.Ytiihllfjlgbfcaa
open Go.RowKit
theorem tail_get (s : UInt32) (k : Nat) (hk : k < 4) : (Crc.tail s)[k]'(by rw [tail_length]; exact hk) = Crc.nth s k := by
  simp only [Crc.tail_eq]
  rcases (show k = 0 ∨ k = 1 ∨ k = 2 ∨ k = 3 by omega) with rfl | rfl | rfl | rfl <;> rfl
def GivesArr (l : List UInt8) (k : Int) (w : World) (e : Ending) (w' : World) : Prop := e = .returned (.tuple #[arr l, .int .i64 k]) ∧ Below w.heap.size w w'
theorem put_append {α : Type} (l : List α) (i j : Nat) (m n : List α) (hj : j = i + m.length) (h : i ≤ l.length) : put (put l i m) j n = put l i (m ++ n) := by
  subst hj
  have hl : (l.take i ++ m).length = i + m.length := by simp; omega
  unfold put
  rw [List.take_append_of_le_length (l₁ := l.take i ++ m) (by omega), List.take_of_length_le (l := l.take i ++ m) (by omega)]
  rw [List.drop_append (l₁ := l.take i ++ m), List.drop_of_length_le (l := l.take i ++ m) (by omega), hl, List.drop_drop]
  simp only [List.nil_append, List.append_assoc, List.length_append]
  congr 4
  omega
theorem put_same (n i j : Nat) (m : List UInt8) (h : i + m.length + j ≤ n) : put (zeros n) i (m ++ zeros j) = put (zeros n) i m := by
  unfold put zeros
  simp only [List.append_assoc, List.length_append, List.length_replicate, List.drop_replicate, List.replicate_append_replicate]
  congr 4
  omega
theorem page_bytes (no : UInt32) (i : Int) (cs : List UInt16) (h : cs.length ≤ 120) :
    (put (put (put (zeros 256) 4 [80, 71, i8 i]) 8 (Crc.tail no)) 16 (flat cs)).drop 4 = pad 252 (pageHead no i ++ flat cs) := by
  have hf := flat_length cs
  have ht := tail_length no
  have hh := pageHead_length no i
  have hz : (zeros 256).length = 256 := zeros_length 256
  have s1 : put (zeros 256) 4 [80, 71, i8 i] = put (zeros 256) 4 ([80, 71, i8 i] ++ zeros 1) := (put_same 256 4 1 _ (by simp)).symm
  have s2 : put (put (zeros 256) 4 ([80, 71, i8 i] ++ zeros 1)) 8 (Crc.tail no) = put (zeros 256) 4 ([80, 71, i8 i] ++ zeros 1 ++ Crc.tail no) := put_append _ 4 8 _ _ (by simp [zeros]) (by omega)
  have s3 : put (zeros 256) 4 ([80, 71, i8 i] ++ zeros 1 ++ Crc.tail no) = put (zeros 256) 4 (pageHead no i) := (put_same 256 4 4 ([80, 71, i8 i] ++ zeros 1 ++ Crc.tail no) (by simp [zeros]; omega)).symm
  have s4 : put (put (zeros 256) 4 (pageHead no i)) 16 (flat cs) = put (zeros 256) 4 (pageHead no i ++ flat cs) := put_append _ 4 16 _ _ (by omega) (by omega)
  rw [s1, s2, s3, s4, ← put_zeros _ 252 4, List.take_of_length_le (l := pageHead no i ++ flat cs) (by simp; omega)]
set_option maxRecDepth 100000 in
theorem block_good (no : UInt32) (i : Int) (a : Option Addr) (cs : List UInt16) (c : Nat) (w : World) (h0 : 0 ≤ i) (h1 : i ≤ 255) (hl : cs.length ≤ 120) (hrd : Rd w a (cs.map b16)) :
    Calls Try.prog 32 #[.int .u32 (n32 no), .int .i64 i, .slice a cs.length c] w (GivesArr (pageBlock no i cs) 0 w) := by
  have hz := zeros_length 256
  have HZ := Lib.hid hz
  clear hz
  have li := wrap_i8 i
  go_enter Try.func32, Try.ntmps32
  go_wp2_with (first | with_reducible refine halt_alloc 37 ?_)
  refine L.alloc rfl zero37 (by rfl) ?_
  intro w1 hB1 hG1
  simp only [Act.put, List.setIfInBounds_toArray, List.set_cons_zero, List.set_cons_succ]
  go_wp2_with (first | with_reducible refine halt_builtin .copy ?_)
  refine L.copy8 (m := [80, 71, i8 i]) rfl (.tmp 25) (.tmp 28) rfl rfl rfl (hB1.alloc _) (Rd.alloc_new w1 [b8 80, b8 71, b8 (i8 i)] 5) (by simp) (by rw [HZ.out]; simp) ?_
  intro w2 hB2 hG2
  simp only [Act.put, List.setIfInBounds_toArray, List.set_cons_zero, List.set_cons_succ]
  have hb2 : Below w.heap.size w w2 := (Below.alloc hG1 hG1.size _).grown hG2 (by have := hG1.size; simp; omega) (fun k hk => by simp at hk; omega)
  have hfin := page_bytes no i cs hl
  have hT := tail_length no
  have hfl := flat_length cs
  have hC1 : (put (zeros 256) 4 [80, 71, i8 i]).length = 256 := by rw [put_length _ _ _ (by rw [HZ.out]; simp)]; exact HZ.out
  generalize put (zeros 256) 4 [80, 71, i8 i] = C1 at *
  have hC2 : (put C1 8 (Crc.tail no)).length = 256 := by rw [put_length _ _ _ (by omega)]; exact hC1
  have HF := Lib.hid hfin
  have H1 := Lib.hid hC1
  have H2 := Lib.hid hC2
  have H3 := Lib.hid hT
  have H4 := Lib.hid hfl
  clear hfin hC1 hC2 hT hfl hB1 hG2
  go_wp2_with fail
  go_loopw [30] (fun x wr => ∃ k : Nat, k ≤ 4 ∧ x = .int .i64 k ∧ Blk wr w.heap.size 37 ((put C1 8 ((Crc.tail no).take k)).map b8) ∧ Below w.heap.size w wr) (fun x _ => 4 - (intOf x).toNat)
  case atStart => exact ⟨0, by omega, rfl, by rw [List.take_zero, put_nil]; exact hB2, hb2⟩
  case round =>
    obtain ⟨k, hk, rfl, hB, hb⟩ := hrel
    by_cases hlt : k < 4
    · have hpl : (put C1 8 ((Crc.tail no).take k)).length = 256 := by rw [put_length _ _ _ (by have := H1.out; have := H3.out; simp; omega)]; exact H1.out
      obtain ⟨x0, hcell⟩ := hB.cell8 (8 + k) (by omega)
      have hfz := hB.frozen (8 + k)
      have l3 := nth_shift no k hlt
      have e1 := put_set C1 (Crc.tail no) 8 k (by have := H3.out; omega) (by have := H1.out; omega)
      rw [tail_get no k hlt] at e1
      have E1 := Lib.hid e1
      clear e1 hpl
      go_wp2_with fail
      go_roundw
      case rel => exact ⟨k + 1, by omega, by go_num, by rw [← E1.out]; exact hB.set8 _ _, hb.setCell (by show _ ≤ w.heap.size; omega) _⟩
      case measure => simp [intOf]; omega
    · obtain rfl : k = 4 := by omega
      rw [List.take_of_length_le (by rw [H3.out]; omega)] at hB
      generalize put C1 8 (Crc.tail no) = C2 at *
      have l8 := shr16_8
      have lw := w16_8
      clear hB2 hb2
      go_wp2_with fail
      go_loopw [44] (fun x wr => ∃ k : Nat, k ≤ cs.length ∧ x = .int .i64 k ∧ Blk wr w.heap.size 37 ((put C2 16 (flat (cs.take k))).map b8) ∧ Below w.heap.size w wr) (fun x _ => cs.length - (intOf x).toNat)
      case atStart => exact ⟨0, by omega, rfl, by rw [List.take_zero]; exact (put_nil C2 16).symm ▸ hB, hb⟩
      case round =>
        clear hB hb
        obtain ⟨k, hk, rfl, hB, hb⟩ := hrel
        have hlk := flat_length (cs.take k)
        rw [List.length_take, Nat.min_eq_left hk] at hlk
        have hpl : (put C2 16 (flat (cs.take k))).length = 256 := by rw [put_length _ _ _ (by have := H2.out; omega)]; exact H2.out
        by_cases hlt : k < cs.length
        · obtain ⟨ad, rfl, hc⟩ := (hrd.below hb) k (by simpa using hlt)
          simp only [List.getElem_map, b16] at hc
          obtain ⟨x0, hcell⟩ := hB.cell8 (16 + 2 * k) (by omega)
          obtain ⟨x1, hcell1⟩ := hB.cell8 (16 + 2 * k + 1) (by omega)
          have hfz := hB.frozen (16 + 2 * k)
          have hfz1 := hB.frozen (16 + 2 * k + 1)
          have e1 := put_end C2 16 (flat (cs.take k)) (16 + 2 * k) (by omega) cs[k].toUInt8 (by have := H2.out; omega)
          have e2 := put_end C2 16 (flat (cs.take k) ++ [cs[k].toUInt8]) (16 + 2 * k + 1) (by simp; omega) (cs[k] >>> 8).toUInt8 (by have := H2.out; omega)
          have e3 := flat_take_succ cs k hlt
          have E1 := Lib.hid e1
          have E2 := Lib.hid e2
          have E3 := Lib.hid e3
          clear e1 e2 e3 hpl hlk
          go_wp2_with fail
          go_roundw
          case rel =>
            refine ⟨k + 1, by omega, by go_num, ?_, (hb.setCell (by show _ ≤ w.heap.size; omega) _).setCell (by show _ ≤ w.heap.size; omega) _⟩
            have hx := (hB.set8 (16 + 2 * k) cs[k].toUInt8).set8 (16 + 2 * k + 1) (cs[k] >>> 8).toUInt8
            rw [E1.out, E2.out, List.append_assoc] at hx
            rw [E3.out]
            exact hx
          case measure => simp [intOf]; omega
        · obtain rfl : k = cs.length := by omega
          rw [List.take_length] at hB hpl
          have hrd2 := hB.rd8 4
          rw [HF.out] at hrd2
          have hpad := pad_length 252 (pageHead no i ++ flat cs)
          have hs1 : Calls Try.prog 21 #[.slice (some ⟨w.heap.size, 4, none⟩) 252 252] wr fun e w' => e = .returned (.int .u32 (n32 (Crc.sum (pad 252 (pageHead no i ++ flat cs))))) ∧ Below wr.heap.size wr w' := by
            have := sum_any (some ⟨w.heap.size, 4, none⟩) (pad 252 (pageHead no i ++ flat cs)) 252 wr (by rw [hpad]; unfold maxLen; omega) hrd2
            rwa [hpad] at this
          have HP := Lib.hid hpl
          clear hpl hpad hrd2 hlk
          go_wp2_with fail
          refine hs1.mono ?_
          rintro e w3 ⟨rfl, hb3⟩
          have hB3 := hB.gb hb3
          have hb4 := bgb hb hb3 hb.size
          generalize hS : Crc.sum (pad 252 (pageHead no i ++ flat cs)) = s at *
          have HS := Lib.hid hS
          clear hS hs1 hB hb3
          have hT := tail_length s
          have HT := Lib.hid hT
          clear hT
          generalize put C2 16 (flat cs) = C3 at *
          go_wp2_with fail
          go_loopw [66] (fun x wx => ∃ k : Nat, k ≤ 4 ∧ x = .int .i64 k ∧ Blk wx w.heap.size 37 ((put C3 0 ((Crc.tail s).take k)).map b8) ∧ Below w.heap.size w wx) (fun x _ => 4 - (intOf x).toNat)
          case atStart => exact ⟨0, by omega, rfl, by rw [List.take_zero, put_nil]; exact hB3, hb4⟩
          case round =>
            obtain ⟨j, hj, rfl, hBj, hbj⟩ := hrel
            have hpl : (put C3 0 ((Crc.tail s).take j)).length = 256 := by rw [put_length _ _ _ (by have := HP.out; have := HT.out; simp; omega)]; exact HP.out
            by_cases hlt : j < 4
            · obtain ⟨x0, hcell⟩ := hBj.cell8 j (by omega)
              have hfz := hBj.frozen j
              have l3 := nth_shift s j hlt
              have e1 := put_set C3 (Crc.tail s) 0 j (by have := HT.out; omega) (by have := HP.out; omega)
              rw [tail_get s j hlt, Nat.zero_add] at e1
              have E1 := Lib.hid e1
              clear e1 hpl
              go_wp2_with fail
              go_roundw
              case rel => exact ⟨j + 1, by omega, by go_num, by rw [← E1.out]; exact hBj.set8 _ _, hbj.setCell (by show _ ≤ w.heap.size; omega) _⟩
              case measure => simp [intOf]; omega
            · obtain rfl : j = 4 := by omega
              rw [List.take_of_length_le (by rw [HT.out]; omega), put_zero, HT.out, HF.out, ← HS.out] at hBj
              have hsl := summed_length (pageHead no i ++ flat cs)
              have HSL := Lib.hid hsl
              clear hsl hpl
              go_wp2_with (first | with_reducible refine halt_load 37 ?_ | with_reducible refine halt_store 37 ?_)
              refine L.load (l := pageBlock no i cs) rfl Try.underlying37 info37 (by rfl) hBj HSL.out (by rfl) ?_
              simp only [Act.put, List.setIfInBounds_toArray, List.set_cons_zero, List.set_cons_succ]
              go_wp2_with (first | with_reducible refine halt_load 37 ?_ | with_reducible refine halt_store 37 ?_)
              refine L.store rfl info37 (by rfl) (by rfl) hBj (by rw [List.length_map]; exact HSL.out) HSL.out (by rfl) ?_
              intro w5 hB5 hG5
              simp only [Act.put]
              go_wp2_with fail
              refine ret_cell2 rfl (by rfl) Try.underlying37 info37 hB5 HSL.out (by rfl) rfl ?_
              exact ⟨rfl, hbj.grown hG5 hbj.size (fun k hk => by simp at hk; omega)⟩
set_option maxRecDepth 100000 in
theorem block_bad (no : UInt32) (i : Int) (a : Option Addr) (n c : Nat) (w : World) (h : i < 0 ∨ 255 < i ∨ 120 < n) :
    Calls Try.prog 32 #[.int .u32 (n32 no), .int .i64 i, .slice a n c] w (GivesArr (zeros 256) 2 w) := by
  have hz := zeros_length 256
  have HZ := Lib.hid hz
  clear hz
  rcases (show i < 0 ∨ (¬ i < 0 ∧ 255 < i) ∨ (¬ i < 0 ∧ ¬ 255 < i ∧ 120 < n) by omega) with h | ⟨h, h'⟩ | ⟨h, h', h''⟩
  all_goals
    go_enter Try.func32, Try.ntmps32
    go_wp2_with (first | with_reducible refine halt_alloc 37 ?_ | with_reducible refine halt_load 37 ?_ | with_reducible refine halt_store 37 ?_)
    refine L.alloc rfl zero37 (by rfl) ?_
    intro w1 hB1 hG1
    simp only [Act.put, List.setIfInBounds_toArray, List.set_cons_zero, List.set_cons_succ]
    go_wp2_with (first | with_reducible refine halt_alloc 37 ?_ | with_reducible refine halt_load 37 ?_ | with_reducible refine halt_store 37 ?_)
    refine L.load rfl Try.underlying37 info37 (by rfl) hB1 HZ.out (by rfl) ?_
    simp only [Act.put, List.setIfInBounds_toArray, List.set_cons_zero, List.set_cons_succ]
    go_wp2_with (first | with_reducible refine halt_alloc 37 ?_ | with_reducible refine halt_load 37 ?_ | with_reducible refine halt_store 37 ?_)
    refine L.store rfl info37 (by rfl) (by rfl) hB1 (by rw [List.length_map]; exact HZ.out) HZ.out (by rfl) ?_
    intro w2 hB2 hG2
    simp only [Act.put]
    go_wp2_with (first | with_reducible refine halt_alloc 37 ?_ | with_reducible refine halt_load 37 ?_ | with_reducible refine halt_store 37 ?_)
    refine ret_cell2 rfl (by rfl) Try.underlying37 info37 hB2 HZ.out (by rfl) rfl ?_
    exact ⟨rfl, (Below.grown hG1 hG2 hG1.size (fun k hk => by simp at hk; omega))⟩

end Go.Proofs.Ytiihllfjlgbfcaa
