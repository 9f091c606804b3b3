/- The walk of page.Of. -/
import Derived.Test.YtiihllfjlgbfcaaPBlock
import Derived.Test.YtiihllfjlgbfcaaRow
namespace Go.Proofs.Ytiihllfjlgbfcaa
open Go.RowKit
def word (L : List UInt8) (k : Nat) : UInt16 := (L.getD (16 + 2 * k) 0).toUInt16 ||| ((L.getD (16 + 2 * k + 1) 0).toUInt16 <<< 8)
def words (L : List UInt8) : Nat → List UInt16
  | 0 => []
  | k + 1 => words L k ++ [word L k]
theorem words_length (L : List UInt8) (k : Nat) : (words L k).length = k := by
  induction k with
  | zero => rfl
  | succ k ih => simp [words, ih]
theorem words_succ (B : List UInt8) (k : Nat) : words B (k + 1) = words B k ++ [word B k] := rfl
theorem word_get (B : List UInt8) (k : Nat) (h : 16 + 2 * k + 1 < B.length) : word B k = B[16 + 2 * k].toUInt16 ||| (B[16 + 2 * k + 1].toUInt16 <<< 8) := by
  simp [word, List.getD, List.getElem?_eq_getElem h, List.getElem?_eq_getElem (show 16 + 2 * k < B.length by omega)]
def pgOf (no : UInt32) (i : Int) (B : List UInt8) : List UInt16 × Int := if pageBlock no i (words B 120) = B then (words B 120, 0) else ([], 4)
def GivesPg (cs : List UInt16) (k : Int) (w : World) (e : Ending) (w' : World) : Prop := ∃ a c, e = .returned (.tuple #[.slice a cs.length c, .int .i64 k]) ∧ Rd w' a (cs.map b16) ∧ Below w.heap.size w w'
theorem of_bad (no : UInt32) (i : Int) (B : List UInt8) (w : World) (h : i < 0 ∨ 255 < i) :
    Calls Try.prog 34 #[.int .u32 (n32 no), .int .i64 i, arr B] w (GivesPg [] 2 w) := by
  rcases (show i < 0 ∨ (¬ i < 0 ∧ 255 < i) by omega) with h | ⟨h, h'⟩
  all_goals
    go_enter Try.func34, Try.ntmps34
    go_wp2_with (first | with_reducible refine halt_box 37 ?_)
    refine L.box rfl (by rfl) (by rfl) ?_
    intro w1 hB1 hG1
    simp only [Act.put, List.setIfInBounds_toArray, List.set_cons_zero, List.set_cons_succ]
    go_wp2_with fail
    go_ret2
    exact ⟨none, 0, rfl, Rd.nil _ _, hG1⟩
set_option maxRecDepth 100000 in
theorem of_good (no : UInt32) (i : Int) (B : List UInt8) (w : World) (h0 : 0 ≤ i) (h1 : i ≤ 255) (hL : B.length = 256) :
    Calls Try.prog 34 #[.int .u32 (n32 no), .int .i64 i, arr B] w (GivesPg (pgOf no i B).1 (pgOf no i B).2 w) := by
  have HL := Lib.hid hL
  clear hL
  go_enter Try.func34, Try.ntmps34
  go_wp2_with (first | with_reducible refine halt_box 37 ?_)
  refine L.box rfl (by rfl) (by rfl) ?_
  intro w1 hB1 hG1
  simp only [Act.put, List.setIfInBounds_toArray, List.set_cons_zero, List.set_cons_succ]
  go_wp2_with (first | with_reducible refine halt_make 35 ?_)
  refine L.make (n := 120) elem16 _ _ rfl rfl rfl (by omega) (by rfl) ?_
  intro w2 hB2 hG2
  rw [made16] at hB2
  simp only [Act.put, List.setIfInBounds_toArray, List.set_cons_zero, List.set_cons_succ]
  have hz := zeros16_length 120
  have HZ := Lib.hid hz
  clear hz
  have hB1' := hB1.gb hG2
  have hg1 := hG1.size
  have hg2 := hB1.lt
  have hb2 := bgb hG1 hG2 hG1.size
  clear hB1
  go_wp2_with fail
  go_loopw [21] (fun x wr => ∃ k : Nat, k ≤ 120 ∧ x = .int .i64 k ∧ Blk wr w1.heap.size 73 ((put (zeros16 120) 0 (words B k)).map b16) ∧ Blk wr w.heap.size 37 (B.map b8) ∧ Below w.heap.size w wr) (fun x _ => 120 - (intOf x).toNat)
  case atStart => exact ⟨0, by omega, rfl, by rw [show words B 0 = [] from rfl, put_nil]; exact hB2, hB1', hb2⟩
  case round =>
    obtain ⟨k, hk, rfl, hM, hB, hb⟩ := hrel
    have hwl := words_length B k
    have hpl : (put (zeros16 120) 0 (words B k)).length = 120 := by rw [put_length _ _ _ (by rw [HZ.out]; omega)]; exact HZ.out
    by_cases hlt : k < 120
    · have hc0 := hB.get8 (16 + 2 * k) (by rw [HL.out]; omega)
      have hc1 := hB.get8 (16 + 2 * k + 1) (by rw [HL.out]; omega)
      obtain ⟨x0, hcx⟩ := hM.cell16 k (by omega)
      have hfz := hM.frozen k
      have e1 := put_end (zeros16 120) 0 (words B k) k (by omega) (word B k) (by rw [HZ.out]; omega)
      rw [← words_succ, word_get B k (by rw [HL.out]; omega)] at e1
      generalize B[16 + 2 * k]'(by rw [HL.out]; omega) = x at *
      generalize B[16 + 2 * k + 1]'(by rw [HL.out]; omega) = y at *
      have HE := Lib.hid e1
      clear e1
      have hM' := Lib.hid hM
      have hB' := Lib.hid hB
      clear hM hB
      have C0 : ∀ u, GB wr.drew u → u.cell? ⟨w.heap.size, 16 + 2 * k, none⟩ = some (.int .u8 (n8 x)) := fun u hu => hu.cell hc0
      have C1 : ∀ u, GB wr.drew u → u.cell? ⟨w.heap.size, 16 + 2 * k + 1, none⟩ = some (.int .u8 (n8 y)) := fun u hu => hu.cell hc1
      have l1 := w8_16
      have l2 := u8_u16
      have l3 : ∀ a, IntKind.u16.wrap (n16 a * 256) = n16 (a <<< 8) := shl16_8
      have l4 := or16
      have iw : IntKind.i64.wrap (k : Int) = k := wrapi _ (by omega) (by omega)
      have iw2 : IntKind.i64.wrap (2 * (k : Int)) = 2 * k := wrapi _ (by omega) (by omega)
      have iw3 : IntKind.i64.wrap (16 + 2 * (k : Int)) = 16 + 2 * k := wrapi _ (by omega) (by omega)
      have iw4 : IntKind.i64.wrap (16 + 2 * (k : Int) + 1) = 16 + 2 * k + 1 := wrapi _ (by omega) (by omega)
      have t1 : (16 + 2 * (k : Int)).toNat = 16 + 2 * k := by omega
      have t2 : (16 + 2 * (k : Int) + 1).toNat = 16 + 2 * k + 1 := by omega
      have c1 : 0 ≤ 16 + 2 * (k : Int) := by omega
      have c2 : 16 + 2 * (k : Int) < 256 := by omega
      have c3 : 0 ≤ 16 + 2 * (k : Int) + 1 := by omega
      have c4 : 16 + 2 * (k : Int) + 1 < 256 := by omega
      go_wp2_with fail
      refine region_gb [(0,0),(1,0),(2,0),(3,0),(4,0),(5,0),(6,0),(7,0),(8,0),(9,0),(10,0),(11,0),(12,0),(13,0),(14,0),(15,0),(16,0),(17,2),(18,2)] [17,18] (by kernel_rfl) ?_
      repeat (refine S0w (v := ?_) (by rfl) (by rfl) (fun u hu N hN => ?_) ?_; rotate_left; (go_simp; exact hN); simp only [Act.put, List.setIfInBounds_toArray, List.set_cons_zero, List.set_cons_succ])
      refine S2 (by rfl) (by rfl) (fun K hK => ?_)
      go_wp2_with fail
      refine S2 (by rfl) (by rfl) (fun K hK => ?_)
      go_wp2_with fail
      refine S.done ?_
      go_wp2_with fail
      go_roundw
      case rel => exact ⟨k + 1, by omega, by go_num, by rw [← HE.out]; exact Blk.set16 (Blk.gb hM'.out (GB.drew _)) _ _, Blk.other (Blk.gb hB'.out (GB.drew _)) (by omega) _ _, hb.drew.setCell (by show _ ≤ w1.heap.size; omega) _⟩
      case measure => simp [intOf]; omega
    · obtain rfl : k = 120 := by omega
      have hp : put (zeros16 120) 0 (words B 120) = words B 120 := by rw [put_zero, hwl, List.drop_of_length_le (by rw [HZ.out]; omega)]; simp
      rw [hp] at hM
      have hrd := hM.rd 0
      rw [List.drop_zero] at hrd
      have hg : Calls Try.prog 32 #[.int .u32 (n32 no), .int .i64 i, .slice (some ⟨w1.heap.size, 0, none⟩) 120 120] wr (GivesArr (pageBlock no i (words B 120)) 0 wr) := by
        have := block_good no i (some ⟨w1.heap.size, 0, none⟩) (words B 120) 120 wr h0 h1 (by omega) hrd
        rwa [hwl] at this
      have hsl := summed_length (pageHead no i ++ flat (words B 120))
      have hpg : pgOf no i B = if pageBlock no i (words B 120) = B then (words B 120, 0) else ([], 4) := rfl
      have HSL : Hid ((pageBlock no i (words B 120)).length = 256) := Lib.hid hsl
      have HPG := Lib.hid hpg
      generalize pageBlock no i (words B 120) = C at *
      clear hsl hpg hp hpl
      generalize words B 120 = W at *
      have HW := Lib.hid hwl
      clear hwl
      go_wp2_with fail
      refine hg.mono ?_
      rintro e w3 ⟨rfl, hb3⟩
      have hB3 := hB.gb hb3
      have hrd3 := hrd.below hb3
      have hb4 := bgb hb hb3 hb.size
      clear hg hB hrd hb3 hM
      go_wp2_with (first | with_reducible refine halt_alloc 37 ?_)
      refine L.alloc rfl zero37 (by rfl) ?_
      intro w4 hB4 hG4
      simp only [Act.put, List.setIfInBounds_toArray, List.set_cons_zero, List.set_cons_succ]
      go_wp2_with (first | with_reducible refine halt_store 37 ?_)
      refine L.store rfl info37 (by rfl) (by rfl) hB4 (by rw [List.length_map]; exact zeros_length 256) HSL.out (by rfl) ?_
      intro w5 hB5 hG5
      simp only [Act.put]
      have hlt3 := hB3.lt
      have hs4 := hG4.size
      have hs3 := hb4.size
      have hw1 : w1.heap.size < w3.heap.size := by obtain ⟨ad, he, hlt⟩ := hrd3.lt (by simp; have := HW.out; omega); cases he; exact hlt
      have hB6 : Blk w5 w.heap.size 37 (B.map b8) := (hB3.gb hG4).grown hG5 (by simp; omega)
      have hrd6 : Rd w5 (some ⟨w1.heap.size, 0, none⟩) (W.map b16) := (hrd3.below hG4).keep (hG5.block _ (by show w1.heap.size < _; omega) (by simp; omega))
      have hb6 : Below w.heap.size w w5 := (bgb hb4 hG4 hs3).grown hG5 (by omega) (fun k hk => by simp at hk; omega)
      clear hB3 hrd3 hB4 hG4 hG5 hb4
      by_cases hCB : C = B
      · have hq : (!(C == B)) = false := by simp [hCB]
        rw [if_pos hCB] at HPG
        have HC := Lib.hid hCB
        clear hCB
        go_wp2_with (first | with_reducible refine halt_load 37 ?_ | with_reducible refine halt_bin 37 ?_)
        refine L.load rfl Try.underlying37 info37 (by rfl) hB5 HSL.out (by rfl) ?_
        simp only [Act.put, List.setIfInBounds_toArray, List.set_cons_zero, List.set_cons_succ]
        go_wp2_with (first | with_reducible refine halt_load 37 ?_ | with_reducible refine halt_bin 37 ?_)
        refine L.load rfl Try.underlying37 info37 (by rfl) hB6 HL.out (by rfl) ?_
        simp only [Act.put, List.setIfInBounds_toArray, List.set_cons_zero, List.set_cons_succ]
        go_wp2_with (first | with_reducible refine halt_load 37 ?_ | with_reducible refine halt_bin 37 ?_)
        refine L.neq rfl Try.underlying37 guard37 (by rfl) (by rfl) HSL.out HL.out (by rfl) ?_
        simp only [Act.put, List.setIfInBounds_toArray, List.set_cons_zero, List.set_cons_succ]
        go_wp2_with fail
        go_ret2
        rw [HPG.out]
        exact ⟨some ⟨w1.heap.size, 0, none⟩, 120, by rw [show ((W, (0 : Int)).1).length = 120 from HW.out]; rfl, hrd6, hb6⟩
      · have hq : (!(C == B)) = true := by simp [hCB]
        rw [if_neg hCB] at HPG
        have HC := Lib.hid hCB
        clear hCB
        go_wp2_with (first | with_reducible refine halt_load 37 ?_ | with_reducible refine halt_bin 37 ?_)
        refine L.load rfl Try.underlying37 info37 (by rfl) hB5 HSL.out (by rfl) ?_
        simp only [Act.put, List.setIfInBounds_toArray, List.set_cons_zero, List.set_cons_succ]
        go_wp2_with (first | with_reducible refine halt_load 37 ?_ | with_reducible refine halt_bin 37 ?_)
        refine L.load rfl Try.underlying37 info37 (by rfl) hB6 HL.out (by rfl) ?_
        simp only [Act.put, List.setIfInBounds_toArray, List.set_cons_zero, List.set_cons_succ]
        go_wp2_with (first | with_reducible refine halt_load 37 ?_ | with_reducible refine halt_bin 37 ?_)
        refine L.neq rfl Try.underlying37 guard37 (by rfl) (by rfl) HSL.out HL.out (by rfl) ?_
        simp only [Act.put, List.setIfInBounds_toArray, List.set_cons_zero, List.set_cons_succ]
        go_wp2_with fail
        go_ret2
        rw [HPG.out]
        exact ⟨none, 0, rfl, Rd.nil _ _, hb6⟩
end Go.Proofs.Ytiihllfjlgbfcaa
