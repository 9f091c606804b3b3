/- Walks of voileref07.Same, page.Pages, voilelaw07.known. -/
import Derived.Test.YtiihllfjlgbfcaaROf
namespace Go.Proofs.Ytiihllfjlgbfcaa
open Go.RowKit
/-- Two slices of 16-bit numbers are compared. -/
theorem same16_any (a b : Option Addr) (l m : List UInt16) (c d : Nat) (w : World) (hl : l.length ≤ maxLen) (hm : m.length ≤ maxLen) (ha : Rd w a (l.map b16)) (hb : Rd w b (m.map b16)) :
    Calls Try.prog 36 #[.slice a l.length c, .slice b m.length d] w fun e w' => e = .returned (.bool (l == m)) ∧ Below w.heap.size w w' := by
  unfold maxLen at hl hm
  by_cases hlen : l.length = m.length
  · have hlen' := Lib.hid hlen
    have hle : m.length ≤ l.length := by omega
    have hge : l.length ≤ m.length := by omega
    clear hlen
    go_enter Try.func36, Try.ntmps36
    have ht : ((l.length : Int) != (m.length : Int)) = false := by simp; omega
    go_wp2_with fail
    go_loopw [5] (fun i wr => ∃ k : Nat, k ≤ l.length ∧ i = .int .i64 k ∧ Hid (l.take k = m.take k) ∧ Below w.heap.size w wr) (fun i _ => l.length - (intOf i).toNat)
    case atStart => exact ⟨0, by omega, rfl, by simp [Hid], Below.refl _ _⟩
    case round =>
      obtain ⟨k, hk, rfl, htk, hbel⟩ := hrel
      by_cases hlt : k < l.length
      · have hlt' : k < m.length := by omega
        obtain ⟨ada, rfl, hca⟩ := (ha.below hbel) k (by simpa using hlt)
        obtain ⟨adb, rfl, hcb⟩ := (hb.below hbel) k (by simpa using hlt')
        simp only [List.getElem_map, b16] at hca hcb
        have HA : ∀ u, GB wr.drew u → u.cell? (ada.add k) = some (.int .u16 (n16 l[k])) := fun u hu => hu.cell hca
        have HB : ∀ u, GB wr.drew u → u.cell? (adb.add k) = some (.int .u16 (n16 m[k])) := fun u hu => hu.cell hcb
        have tk1 := List.take_succ_eq_append_getElem hlt
        have tk2 := List.take_succ_eq_append_getElem hlt'
        have T1 := Lib.hid tk1
        have T2 := Lib.hid tk2
        clear tk1 tk2
        by_cases hne : l[k] = m[k]
        · have hq : (n16 l[k] != n16 m[k]) = false := by simp [hne]
          have HE := Lib.hid hne
          clear hne
          go_wp2_with fail
          refine region_gb [(0,0),(1,0),(2,0),(3,0),(4,0),(5,0),(6,0),(7,0),(8,0)] [] (by kernel_rfl) ?_
          repeat (refine S0w (v := ?_) (by rfl) (by rfl) (fun u hu N hN => ?_) ?_; rotate_left; (go_simp; exact hN); simp only [Act.put, List.setIfInBounds_toArray, List.set_cons_zero, List.set_cons_succ])
          refine S.done ?_
          go_wp2_with fail
          go_roundw
          case rel => exact ⟨k + 1, by omega, by go_num, by show _ = _; rw [T1.out, T2.out, htk.out, HE.out], hbel.drew⟩
          case measure => simp [intOf]; omega
        · have hq : (n16 l[k] != n16 m[k]) = true := by rw [bne_iff_ne]; exact fun h => hne (n16_inj h)
          have hlm : (l == m) = false := by
            rw [beq_eq_false_iff_ne]; rintro rfl; exact hne rfl
          go_wp2_with fail
          refine region_gb [(0,0),(1,0),(2,0),(3,0),(4,0),(5,0),(6,0),(7,0),(8,0)] [] (by kernel_rfl) ?_
          repeat (refine S0w (v := ?_) (by rfl) (by rfl) (fun u hu N hN => ?_) ?_; rotate_left; (go_simp; exact hN); simp only [Act.put, List.setIfInBounds_toArray, List.set_cons_zero, List.set_cons_succ])
          refine S.done ?_
          go_wp2_with fail
          go_ret
          exact ⟨by rw [hlm]; rfl, hbel.drew⟩
      · have hlm : (l == m) = true := by
          have h1 := htk.out
          rw [List.take_of_length_le (by omega), List.take_of_length_le (by omega)] at h1
          rw [beq_iff_eq]; exact h1
        go_wp2_with fail
        go_ret
        exact ⟨by rw [hlm]; rfl, hbel⟩
  · have ht : ((l.length : Int) != (m.length : Int)) = true := by rw [bne_iff_ne]; omega
    have hlm : (l == m) = false := by
      rw [beq_eq_false_iff_ne]; rintro rfl; exact hlen rfl
    go_enter Try.func36, Try.ntmps36
    go_wp2_with fail
    go_ret
    exact ⟨by rw [hlm]; rfl, Below.refl _ _⟩

def pages (n : Int) : Int := if n < 1 then 0 else (n - 1) / 120 + 1
theorem pages_any (n : Int) (w : World) (h : n ≤ 9223372036854775807) : Calls Try.prog 51 #[.int .i64 n] w fun e w' => e = .returned (.int .i64 (pages n)) ∧ w = w' := by
  by_cases h1 : n < 1
  · go_enter Try.func51, Try.ntmps51
    go_wp2_with fail
    go_ret
    exact ⟨by rw [pages, if_pos h1]; rfl, rfl⟩
  · have e1 : IntKind.i64.wrap (n - 1) = n - 1 := wrapi _ (by omega) (by omega)
    have e2 : (n - 1).tdiv 120 = (n - 1) / 120 := Int.tdiv_eq_ediv_of_nonneg (by omega)
    have e3 : IntKind.i64.wrap ((n - 1) / 120) = (n - 1) / 120 := wrapi _ (by omega) (by omega)
    have e4 : IntKind.i64.wrap ((n - 1) / 120 + 1) = (n - 1) / 120 + 1 := wrapi _ (by omega) (by omega)
    go_enter Try.func51, Try.ntmps51
    go_wp2_with fail
    go_ret
    refine ⟨?_, rfl⟩
    rw [pages, if_neg (by omega)]
    rfl
theorem known7_any (w : World) : Calls Try.prog 31 #[] w fun e w' => e = .returned (.bool true) ∧ w = w' := by
  have p1 : pages 1 = 1 := by decide
  have p2 : pages 120 = 1 := by decide
  have p3 : pages 121 = 2 := by decide
  go_enter Try.func31, Try.ntmps31
  go_wp2_with fail
  refine (pages_any 1 _ (by omega)).mono ?_
  rintro e w' ⟨rfl, rfl⟩
  go_wp2_with fail
  refine (pages_any 120 _ (by omega)).mono ?_
  rintro e w' ⟨rfl, rfl⟩
  go_wp2_with fail
  refine (pages_any 121 _ (by omega)).mono ?_
  rintro e w' ⟨rfl, rfl⟩
  go_wp2_with fail
  go_ret
  exact ⟨rfl, rfl⟩
end Go.Proofs.Ytiihllfjlgbfcaa
