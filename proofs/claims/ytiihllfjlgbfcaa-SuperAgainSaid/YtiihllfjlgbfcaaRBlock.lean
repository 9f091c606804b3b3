/- The walk of voileref07.Block. -/
import Derived.Test.YtiihllfjlgbfcaaSummed
namespace Go.Proofs.Ytiihllfjlgbfcaa
open Go.RowKit
def i8 (i : Int) : UInt8 := UInt8.ofNat (i % 256).toNat
theorem wrap_i8 (i : Int) : IntKind.u8.wrap i = n8 (i8 i) := by
  show i % 256 = _
  unfold n8 i8
  simp
  omega
def pageHead (no : UInt32) (i : Int) : List UInt8 := [80, 71, i8 i, 0] ++ Crc.tail no ++ [0, 0, 0, 0]
def flat (cs : List UInt16) : List UInt8 := cs.flatMap Num.two
theorem flat_length (cs : List UInt16) : (flat cs).length = 2 * cs.length := by
  induction cs with
  | nil => rfl
  | cons c cs ih => simp only [flat, List.flatMap_cons, List.length_append, List.length_cons] at *; simp [Num.two] at *; omega
theorem flat_take_succ (cs : List UInt16) (k : Nat) (h : k < cs.length) : flat (cs.take (k + 1)) = flat (cs.take k) ++ Num.two cs[k] := by
  unfold flat; rw [List.take_succ_eq_append_getElem h, List.flatMap_append]; simp
def pageBlock (no : UInt32) (i : Int) (cs : List UInt16) : List UInt8 := summed (pageHead no i ++ flat cs)
theorem pageHead_length (no : UInt32) (i : Int) : (pageHead no i).length = 12 := rfl
set_option maxRecDepth 100000 in
theorem rblock_any (no : UInt32) (i : Int) (a : Option Addr) (cs : List UInt16) (c : Nat) (w : World) (hl : cs.length ≤ 1000) (hrd : Rd w a (cs.map b16)) :
    Calls Try.prog 33 #[.int .u32 (n32 no), .int .i64 i, .slice a cs.length c] w fun e w' => e = .returned (arr (pageBlock no i cs)) ∧ Below w.heap.size w w' := by
  go_enter Try.func33, Try.ntmps33
  go_wp2_with (first | with_reducible refine halt_alloc 37 ?_)
  refine L.alloc rfl zero37 (by rfl) ?_
  intro w1 hB1 hG1
  simp only [Act.put, List.setIfInBounds_toArray, List.set_cons_zero, List.set_cons_succ]
  have li := wrap_i8 i
  have l1 := w32_64
  go_wp2_with fail
  have hO1 : Own8 w1.heap.size (w1.alloc (.cells #[.int .u8 80, .int .u8 71, .int .u8 (n8 (i8 i)), .int .u8 0] 5)) (.slice (some ⟨w1.heap.size, 0, none⟩) 4 4) [80, 71, i8 i, 0] :=
    Own8.lit w1 [80, 71, i8 i, 0] (by unfold maxLen; simp)
  have hb1 : Below w1.heap.size w1 (w1.alloc (.cells #[.int .u8 80, .int .u8 71, .int .u8 (n8 (i8 i)), .int .u8 0] 5)) := (Below.refl _ _).alloc (Nat.le_refl _) _
  generalize (w1.alloc (.cells #[.int .u8 80, .int .u8 71, .int .u8 (n8 (i8 i)), .int .u8 0] 5)) = w2 at *
  refine (low_any _ 4 _ (by omega)).mono ?_
  rintro e w3 ⟨v3, rfl, hown3, hb3⟩
  change Own8 _ _ _ (Num.low 4 _) at hown3
  rw [Num.low4] at hown3
  obtain ⟨a3, c3, rfl, hrd3, -, -, -, -⟩ := hown3.shape
  have hO2 := hO1.gb hb3
  have hb2 := bgb hb1 hb3 hb1.size
  have ht := tail_length no
  generalize hT : Crc.tail no = T at *
  have HT := Lib.hid hT
  have H4 := Lib.hid ht
  clear hT ht
  go_wp2_with (first | (at_builtin; refine wpList_append8 rfl (.tmp 12) (.tmp 15) rfl rfl hO2 rfl hrd3 (by have := H4.out; simp; omega) hb2.size ?_))
  intro v4 w4 hO4 hG4
  have hb4 := hb2.grown hG4 hb2.size (fun k hk => (hO2.lt k hk).1)
  go_wp2_with (first | (at_builtin; refine wpList_append8 (m := [0, 0, 0, 0]) rfl (.tmp 17) (.tmp 18) rfl rfl (hO4.gb ((Below.refl _ _).alloc (Nat.le_refl _) _)) rfl (Rd.alloc_new w4 [b8 0, b8 0, b8 0, b8 0] 5) (by have := H4.out; simp; omega) (by have := hb4.size; simp; omega) ?_))
  intro v5 w5 hO5 hG5
  have hb5 : Below w1.heap.size w1 w5 := (hb4.alloc hb4.size _).grown hG5 (by have := hb4.size; simp; omega) (fun k hk => (hO4.lt k hk).1)
  replace hO5 : Own8 w1.heap.size w5 v5 (pageHead no i) := by
    have e : pageHead no i = 80 :: 71 :: i8 i :: 0 :: (T ++ [0, 0, 0, 0]) := by unfold pageHead; rw [HT.out]; rfl
    rw [e]; exact hO5
  clear hO4 hG4 hG5 hO2 hO1 hrd3 hown3 hb1 hb2 hb3
  have hH := pageHead_length no i
  generalize hHH : pageHead no i = H at *
  have HHH := Lib.hid hHH
  clear hHH
  go_wp2_with fail
  go_loopw [7, 8] (fun v x wr => ∃ k : Nat, k ≤ cs.length ∧ x = .int .i64 k ∧ Own8 w1.heap.size wr v (H ++ flat (cs.take k)) ∧ Below w1.heap.size w1 wr) (fun _ x _ => cs.length - (intOf x).toNat)
  case atStart => exact ⟨0, by omega, rfl, by simpa [flat] using hO5, hb5⟩
  case round =>
    obtain ⟨k, hk, rfl, hO, hb⟩ := hrel
    have hlk := flat_length (cs.take k)
    rw [List.length_take, Nat.min_eq_left hk] at hlk
    by_cases hlt : k < cs.length
    · obtain ⟨ad, rfl, hc⟩ := ((hrd.below hG1).below hb) k (by simpa using hlt)
      simp only [List.getElem_map, b16] at hc
      have l2 := w16_64
      go_wp2_with fail
      refine (low_any _ 2 _ (by omega)).mono ?_
      rintro e w6 ⟨v6, rfl, hown6, hb6⟩
      change Own8 _ _ _ (Num.low 2 _) at hown6
      rw [Num.low2] at hown6
      obtain ⟨a6, c6, rfl, hrd6, -, -, -, -⟩ := hown6.shape
      have hO6 := hO.gb hb6
      have hb7 := bgb hb hb6 hb.size
      have HF := Lib.hid (flat_take_succ cs k hlt)
      have HK := Lib.hid hlk
      clear hlk
      go_wp2_with (first | (at_builtin; refine wpList_append8 rfl (.tmp 26) (.tmp 32) rfl rfl hO6 rfl hrd6 (by have := HK.out; simp [Num.two]; omega) hb7.size ?_))
      intro v7 w7 hO7 hG7
      go_wp2_with fail
      go_roundw
      case rel => exact ⟨k + 1, by omega, by go_num, by rw [HF.out]; exact hO7, hb7.grown hG7 hb7.size (fun k hk => (hO6.lt k hk).1)⟩
      case measure => simp [intOf]; omega
    · obtain rfl : k = cs.length := by omega
      obtain ⟨a7, c7, rfl, hrd7, -, -, -, -⟩ := hO.shape
      have hB7 := hB1.of_below hb hB1.lt
      have hlt1 := hB1.lt
      have hb8 : Below w.heap.size w wr := bgb hG1 hb hG1.size
      have hfin : summed (H ++ flat (cs.take cs.length)) = pageBlock no i cs := by rw [List.take_length, ← HHH.out]; rfl
      have hsl := summed_length (H ++ flat (cs.take cs.length))
      have hlen : (H ++ flat (cs.take cs.length)).length ≤ 1000000 := by rw [List.length_append, hlk, hH]; omega
      generalize H ++ flat (cs.take cs.length) = M at *
      have HL := Lib.hid hsl
      have HF := Lib.hid hfin
      clear hsl hfin
      go_wp2_with fail
      refine (summed_any a7 M c7 _ hlen hrd7).mono ?_
      rintro e w9 ⟨rfl, hb9⟩
      go_wp2_with (first | with_reducible refine halt_store 37 ?_)
      refine L.store rfl info37 (by rfl) (by rfl) (hB7.gb hb9) (by rw [List.length_map]; exact zeros_length 256) HL.out (by rfl) ?_
      intro w10 hB10 hG10
      simp only [Act.put]
      go_wp2_with fail
      refine ret_cell1 rfl (by rfl) Try.underlying37 info37 hB10 HL.out rfl ?_
      exact ⟨by rw [HF.out], (bgb hb8 hb9 hb8.size).grown hG10 (by have := hb8.size; have := hb9.size; omega) (fun k hk => by simp at hk; omega)⟩
end Go.Proofs.Ytiihllfjlgbfcaa
