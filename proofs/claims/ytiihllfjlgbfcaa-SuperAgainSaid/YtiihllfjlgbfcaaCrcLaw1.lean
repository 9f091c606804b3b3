/- The walk of the law CrcSums. -/
import Derived.Test.YtiihllfjlgbfcaaCrc
import Derived.Test.YtiihllfjlgbfcaaMem
namespace Go.Proofs.Ytiihllfjlgbfcaa
open Go.RowKit

theorem known_sum : Crc.sum [49, 50, 51, 52, 53, 54, 55, 56, 57] = 3808858755 := by decide +kernel
theorem known_eq : (n32 (Crc.sum [49, 50, 51, 52, 53, 54, 55, 56, 57]) == 3808858755) = true := by rw [known_sum]; decide +kernel
set_option maxRecDepth 100000 in
theorem known_any (w : World) : Calls Try.prog 20 #[] w fun e w' => e = .returned (.bool true) ∧ Below w.heap.size w w' := by
  have kc := fun (w : World) (C : Array Value) (n c : Nat) => Lib.run_convert_bytes_const (P := Try.prog) w 22 5 C n c Try.underlying22 Try.underlying5
  go_enter Try.func20, Try.ntmps20
  go_wp2_with fail
  refine (sum_any _ [49, 50, 51, 52, 53, 54, 55, 56, 57] _ _ (by unfold maxLen; simp) (Rd.alloc_mark w (([49, 50, 51, 52, 53, 54, 55, 56, 57] : List UInt8).map b8) 5 _)).mono ?_
  rintro e w' ⟨rfl, hb⟩
  generalize hs : Crc.sum [49, 50, 51, 52, 53, 54, 55, 56, 57] = s at *
  have hk : (n32 s == 3808858755) = true := by rw [← hs]; exact known_eq
  clear hs
  go_wp2_with fail
  go_ret
  exact ⟨rfl, ((Below.refl _ _).alloc (Nat.le_refl _) _).trans (hb.mono (by simp))⟩
theorem crcSums_walk (a : Option Addr) (l : List UInt8) (c : Nat) (s : UInt32) (i : Int) (w : World) (hl : l.length ≤ maxLen) (hrd : Rd w a (l.map b8)) :
    Calls Try.prog 3 #[.slice a l.length c, .int .u32 (n32 s), .int .i64 i] w fun e w' => e = .returned (.bool true) ∧ Below w.heap.size w w' := by
  by_cases h5 : 5000 < l.length
  · go_enter Try.func3, Try.ntmps3
    go_wp2_with (go_at_call 20; refine (known_any _).mono ?_; rintro e w' ⟨rfl, hb⟩)
    go_ret
    exact ⟨rfl, hb⟩
  · have hbs := bs_toList
    go_enter Try.func3, Try.ntmps3
    go_wp2_with (first
      | (at_builtin; refine wpList_append8 rfl (.const (.slice none 0 0)) (.tmp 12) rfl rfl (Own8.nil w.heap.size w) rfl hrd (by simp; omega) (Nat.le_refl _) ?_))
    intro v' w1 hown hgr
    have hb1 : Below w.heap.size w w1 := (Below.refl _ _).grown hgr (Nat.le_refl _) (fun k hk => by simp [Value.ownBlock] at hk)
    obtain ⟨a', c', rfl, hrd', -, -, -, -⟩ := hown.shape
    clear hown hgr
    have hrd1 := hrd.below hb1
    have HS := Lib.hid (fun u (hu : GB w1 u) => hu.rd hrd')
    have HR := Lib.hid (fun u (hu : GB w1 u) => hu.rd hrd1)
    have hsz := hb1.size
    clear hrd' hrd1
    go_wp2_with fail
    refine (sum_any _ _ _ _ hl (HS.out _ (GB.refl _))).mono ?_
    rintro e w2 ⟨rfl, hb2⟩
    have g2 : GB w1 w2 := hb2
    go_wp2_with fail
    refine (rsum_any _ _ _ _ hl (HR.out _ g2)).mono ?_
    rintro e w' ⟨rfl, rfl⟩
    go_wp2_with fail
    refine (add_any _ _ _ _ _ hl (HS.out _ g2)).mono ?_
    rintro e w3 ⟨rfl, hb3⟩
    have g3 : GB w1 w3 := g2.trans _ _ _ hb3
    go_wp2_with fail
    refine (radd_any _ _ _ _ _ hl (HR.out _ g3)).mono ?_
    rintro e w' ⟨rfl, rfl⟩
    go_wp2_with fail
    refine (table_any _ _).mono ?_
    rintro e w4 ⟨rfl, hb4⟩
    have g4 : GB w1 w4 := g3.trans _ _ _ hb4
    go_wp2_with fail
    refine (rtable_any _ _).mono ?_
    rintro e w' ⟨rfl, rfl⟩
    have e1 := bytes_string (c := c') (w := w4) a' l (HS.out _ g4)
    have e2 := bytes_string (c := c) (w := w4) a l (HR.out _ g4)
    go_wp2_with fail
    refine (known_any _).mono ?_
    rintro e w5 ⟨rfl, hb5⟩
    go_wp2_with fail
    go_ret
    exact ⟨rfl, bgb (bgb hb1 g4 hsz) hb5 (bgb hb1 g4 hsz).size⟩
end Go.Proofs.Ytiihllfjlgbfcaa
