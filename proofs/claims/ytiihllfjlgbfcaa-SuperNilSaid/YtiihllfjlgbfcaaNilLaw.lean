/- The walk of the law SuperNil. -/
import Derived.Test.YtiihllfjlgbfcaaSSave
namespace Go.Proofs.Ytiihllfjlgbfcaa
open Go.RowKit
set_option maxRecDepth 100000 in
theorem read5_no (v : Value) (k : Int) (w : World) (h : NoDisk w v) : Calls Try.prog 60 #[v, .int .i64 k] w (GivesArr (zeros 256) 1 w) := by
  have HZ := Lib.hid (zeros_length 256)
  have HH := Lib.hid (fun u (g : GB w u) => has5_no v k u (h.gb g))
  go_enter Try.func60, Try.ntmps60
  go_wp2_with (first | with_reducible refine halt_load 82 ?_ | with_reducible refine halt_alloc 82 ?_ | with_reducible refine halt_store 82 ?_ | with_reducible refine halt_build 82 ?_ | with_reducible refine halt_load 37 ?_ | with_reducible refine halt_alloc 37 ?_ | with_reducible refine halt_store 37 ?_ | with_reducible refine halt_build 37 ?_)
  refine L.alloc rfl zero37 (by rfl) ?_
  intro w1 hB1 hG1
  simp only [Act.put, List.setIfInBounds_toArray, List.set_cons_zero, List.set_cons_succ]
  go_wp2_with (first | with_reducible refine halt_load 82 ?_ | with_reducible refine halt_alloc 82 ?_ | with_reducible refine halt_store 82 ?_ | with_reducible refine halt_build 82 ?_ | with_reducible refine halt_load 37 ?_ | with_reducible refine halt_alloc 37 ?_ | with_reducible refine halt_store 37 ?_ | with_reducible refine halt_build 37 ?_)
  refine (HH.out _ hG1).mono ?_
  rintro e w2 ⟨rfl, rfl⟩
  go_wp2_with (first | with_reducible refine halt_load 82 ?_ | with_reducible refine halt_alloc 82 ?_ | with_reducible refine halt_store 82 ?_ | with_reducible refine halt_build 82 ?_ | with_reducible refine halt_load 37 ?_ | with_reducible refine halt_alloc 37 ?_ | with_reducible refine halt_store 37 ?_ | with_reducible refine halt_build 37 ?_)
  refine L.load rfl Try.underlying37 info37 (by rfl) hB1 HZ.out (by rfl) ?_
  simp only [Act.put, List.setIfInBounds_toArray, List.set_cons_zero, List.set_cons_succ]
  go_wp2_with (first | with_reducible refine halt_load 82 ?_ | with_reducible refine halt_alloc 82 ?_ | with_reducible refine halt_store 82 ?_ | with_reducible refine halt_build 82 ?_ | with_reducible refine halt_load 37 ?_ | with_reducible refine halt_alloc 37 ?_ | with_reducible refine halt_store 37 ?_ | with_reducible refine halt_build 37 ?_)
  refine L.store rfl info37 (by rfl) (by rfl) hB1 (by rw [List.length_map]; exact HZ.out) HZ.out (by rfl) ?_
  intro w5 hB5 hG5
  simp only [Act.put]
  go_wp2_with fail
  refine ret_cell2 rfl (by rfl) Try.underlying37 info37 hB5 HZ.out (by rfl) rfl ?_
  exact ⟨rfl, Below.grown hG1 hG5 hG1.size (fun k hk => by cases hk; exact Nat.le_refl _)⟩
set_option maxRecDepth 100000 in
theorem write5_no (v : Value) (k : Int) (B : List UInt8) (w : World) (h : NoDisk w v) : Calls Try.prog 74 #[v, .int .i64 k, arr B] w fun e w' => e = .returned (.int .i64 1) ∧ GB w w' := by
  have HH := Lib.hid (fun u (g : GB w u) => has5_no v k u (h.gb g))
  go_enter Try.func74, Try.ntmps74
  go_wp2_with (first | with_reducible refine halt_box 37 ?_)
  refine L.box rfl (by rfl) (by rfl) ?_
  intro w1 hB1 hG1
  simp only [Act.put, List.setIfInBounds_toArray, List.set_cons_zero, List.set_cons_succ]
  go_wp2_with fail
  refine (HH.out _ hG1).mono ?_
  rintro e w2 ⟨rfl, rfl⟩
  go_wp2_with fail
  go_ret
  exact ⟨rfl, hG1⟩
set_option maxRecDepth 100000 in
theorem load5_no (v : Value) (w : World) (h : NoDisk w v) : Calls Try.prog 59 #[v] w (GivesSu (zeroS, 1) w) := by
  have HZ := Lib.hid (zeros_length 256)
  have HR := Lib.hid (fun u (g : GB w u) => read5_no v 0 u (h.gb g))
  go_enter Try.func59, Try.ntmps59
  go_wp2_with (first | with_reducible refine halt_load 82 ?_ | with_reducible refine halt_alloc 82 ?_ | with_reducible refine halt_store 82 ?_ | with_reducible refine halt_build 82 ?_ | with_reducible refine halt_load 37 ?_ | with_reducible refine halt_alloc 37 ?_ | with_reducible refine halt_store 37 ?_ | with_reducible refine halt_build 37 ?_)
  refine L.alloc82 rfl (by rfl) ?_
  intro w1 hR1 hG1
  simp only [Act.put, List.setIfInBounds_toArray, List.set_cons_zero, List.set_cons_succ]
  go_wp2_with (first | with_reducible refine halt_load 82 ?_ | with_reducible refine halt_alloc 82 ?_ | with_reducible refine halt_store 82 ?_ | with_reducible refine halt_build 82 ?_ | with_reducible refine halt_load 37 ?_ | with_reducible refine halt_alloc 37 ?_ | with_reducible refine halt_store 37 ?_ | with_reducible refine halt_build 37 ?_)
  refine L.alloc82 rfl (by rfl) ?_
  intro w2 hS2 hG2
  simp only [Act.put, List.setIfInBounds_toArray, List.set_cons_zero, List.set_cons_succ]
  have hR2 := hR1.gb hG2
  have hg2 := GB.trans _ _ _ hG1 hG2
  clear hR1 hG1 hG2 hS2
  go_wp2_with fail
  go_loopw [9] (fun x wr => x = .int .i64 0 ∧ w2 = wr) (fun _ _ => 0)
  case atStart => exact ⟨rfl, rfl⟩
  case round =>
    obtain ⟨rfl, rfl⟩ := hrel
    go_wp2_with fail
    refine (HR.out _ hg2).mono ?_
    rintro e w3 ⟨rfl, hb3⟩
    go_wp2_with (first | with_reducible refine halt_load 82 ?_ | with_reducible refine halt_alloc 82 ?_ | with_reducible refine halt_store 82 ?_ | with_reducible refine halt_build 82 ?_ | with_reducible refine halt_load 37 ?_ | with_reducible refine halt_alloc 37 ?_ | with_reducible refine halt_store 37 ?_ | with_reducible refine halt_build 37 ?_)
    refine L.alloc rfl zero37 (by rfl) ?_
    intro w4 hA4 hG4
    simp only [Act.put, List.setIfInBounds_toArray, List.set_cons_zero, List.set_cons_succ]
    go_wp2_with (first | with_reducible refine halt_load 82 ?_ | with_reducible refine halt_alloc 82 ?_ | with_reducible refine halt_store 82 ?_ | with_reducible refine halt_build 82 ?_ | with_reducible refine halt_load 37 ?_ | with_reducible refine halt_alloc 37 ?_ | with_reducible refine halt_store 37 ?_ | with_reducible refine halt_build 37 ?_)
    refine L.store rfl info37 (by rfl) (by rfl) hA4 (by rw [List.length_map]; exact HZ.out) HZ.out (by rfl) ?_
    intro w5 hA5 hG5
    simp only [Act.put]
    have g5 : GB w2 w5 := GB.trans _ _ _ hb3 (Below.grown hG4 hG5 hG4.size (fun k hk => by cases hk; exact Nat.le_refl _))
    have hR5 := hR2.gb g5
    have hb5 := GB.trans _ _ _ hg2 g5
    clear hb3 hA4 hG4 hG5 g5 hA5
    go_wp2_with (first | with_reducible refine halt_load 82 ?_ | with_reducible refine halt_alloc 82 ?_ | with_reducible refine halt_store 82 ?_ | with_reducible refine halt_build 82 ?_ | with_reducible refine halt_load 37 ?_ | with_reducible refine halt_alloc 37 ?_ | with_reducible refine halt_store 37 ?_ | with_reducible refine halt_build 37 ?_)
    refine L.val (by rfl) (X.build82_0 rfl) ?_
    simp only [Act.put, List.setIfInBounds_toArray, List.set_cons_zero, List.set_cons_succ]
    go_wp2_with (first | with_reducible refine halt_load 82 ?_ | with_reducible refine halt_alloc 82 ?_ | with_reducible refine halt_store 82 ?_ | with_reducible refine halt_build 82 ?_ | with_reducible refine halt_load 37 ?_ | with_reducible refine halt_alloc 37 ?_ | with_reducible refine halt_store 37 ?_ | with_reducible refine halt_build 37 ?_)
    refine L.store82 (s := zeroS) rfl (by rfl) (by rfl) hR5 (by rw [suC_len _ (by rfl)]) rfl (by rfl) ?_
    intro w9 hS9 hG9
    simp only [Act.put]
    go_wp2_with fail
    refine ret_su2 rfl (by rfl) hS9 rfl (by rfl) rfl ?_
    exact ⟨rfl, hb5.grown hG9 hb5.size (fun k hk => by cases hk; exact Nat.le_refl _)⟩
set_option maxRecDepth 100000 in
theorem save5_no (v : Value) (s : Su) (w : World) (hs : s.Ok) (h : NoDisk w v) : Calls Try.prog 58 #[v, suV s] w fun e w' => e = .returned (.int .i64 1) ∧ GB w w' := by
  have HZ := Lib.hid (zeros_length 256)
  have HSE := Lib.hid (fun u (g : GB w u) => sectors_no v u (h.gb g))
  have HB := Lib.hid (fun u => block5_any s hs u)
  have hpg := hs.pg
  obtain ⟨X0, c0, hX, hc0, hXl⟩ : ∃ X0 c0, (if mayS s then blockS s else zeros 256) = X0 ∧ (if mayS s then (0 : Int) else 2) = c0 ∧ X0.length = 256 := ⟨_, _, rfl, rfl, by split; exact blockS_length s; exact HZ.out⟩
  rw [hX, hc0] at HB
  have HXL := Lib.hid hXl
  clear hX hc0 hXl
  go_enter Try.func58, Try.ntmps58
  go_wp2_with (first | with_reducible refine halt_box 82 ?_)
  refine L.box82 rfl (by rfl) (by rfl) ?_
  intro w1 hS1 hG1
  simp only [Act.put, List.setIfInBounds_toArray, List.set_cons_zero, List.set_cons_succ]
  go_wp2_with (first | with_reducible refine halt_load 82 ?_ | with_reducible refine halt_alloc 82 ?_ | with_reducible refine halt_store 82 ?_ | with_reducible refine halt_build 82 ?_ | with_reducible refine halt_load 37 ?_ | with_reducible refine halt_alloc 37 ?_ | with_reducible refine halt_store 37 ?_ | with_reducible refine halt_build 37 ?_)
  refine L.load82 rfl (by rfl) hS1 hpg (by rfl) ?_
  simp only [Act.put, List.setIfInBounds_toArray, List.set_cons_zero, List.set_cons_succ]
  go_wp2_with (first | with_reducible refine halt_load 82 ?_ | with_reducible refine halt_alloc 82 ?_ | with_reducible refine halt_store 82 ?_ | with_reducible refine halt_build 82 ?_ | with_reducible refine halt_load 37 ?_ | with_reducible refine halt_alloc 37 ?_ | with_reducible refine halt_store 37 ?_ | with_reducible refine halt_build 37 ?_)
  refine (HB.out _).mono ?_
  rintro e w2 ⟨rfl, hb2⟩
  go_wp2_with (first | with_reducible refine halt_load 82 ?_ | with_reducible refine halt_alloc 82 ?_ | with_reducible refine halt_store 82 ?_ | with_reducible refine halt_build 82 ?_ | with_reducible refine halt_load 37 ?_ | with_reducible refine halt_alloc 37 ?_ | with_reducible refine halt_store 37 ?_ | with_reducible refine halt_build 37 ?_)
  refine L.alloc rfl zero37 (by rfl) ?_
  intro w3 hA3 hG3
  simp only [Act.put, List.setIfInBounds_toArray, List.set_cons_zero, List.set_cons_succ]
  go_wp2_with (first | with_reducible refine halt_load 82 ?_ | with_reducible refine halt_alloc 82 ?_ | with_reducible refine halt_store 82 ?_ | with_reducible refine halt_build 82 ?_ | with_reducible refine halt_load 37 ?_ | with_reducible refine halt_alloc 37 ?_ | with_reducible refine halt_store 37 ?_ | with_reducible refine halt_build 37 ?_)
  refine L.store rfl info37 (by rfl) (by rfl) hA3 (by rw [List.length_map]; exact HZ.out) HXL.out (by rfl) ?_
  intro w4 hA4 hG4
  simp only [Act.put]
  have hg2 := GB.trans _ _ _ hG1 hb2
  have hg4 : GB w w4 := Below.trans hg2 ((Below.grown hG3 hG4 hG3.size (fun k hk => by cases hk; exact Nat.le_refl _)).mono hg2.size)
  clear hS1 hG1 hb2 hA3 hG3 hA4 hG4 hg2
  go_wp2_with fail
  refine (HSE.out _ hg4).mono ?_
  rintro e w5 ⟨rfl, rfl⟩
  go_wp2_with fail
  go_ret
  exact ⟨rfl, hg4⟩
set_option maxHeartbeats 1000000 in
set_option maxRecDepth 100000 in
theorem superNil_walk (w : World) : Calls Try.prog 13 #[] w fun e w' => e = .returned (.bool true) ∧ GB w w' := by
  have HZ := Lib.hid (zeros_length 256)
  have hn : ∀ u, NoDisk u (.pointer none) := fun u => .inl rfl
  have HLN := Lib.hid (fun u => load5_no (.pointer none) u (hn u))
  have HRN := Lib.hid (fun u => read5_no (.pointer none) 0 u (hn u))
  have HWN := Lib.hid (fun u => write5_no (.pointer none) 0 (zeros 256) u (hn u))
  have HSN := Lib.hid (fun u => save5_no (.pointer none) (someS 1) u (someS_ok 1) (hn u))
  have HS1 : Hid (∀ u, Calls Try.prog 57 #[.int .u64 1] u fun e w' => e = .returned (suV (someS 1)) ∧ GB u w') := Lib.hid (fun u => some5_any 1 u)
  have G0 := DD.new_good 7 (by decide) (by decide)
  have HNW : Hid (∀ u, Calls Try.prog 37 #[.int .i64 7] u (GivesDisk (DD.new 7) u)) := Lib.hid (fun u => new_any 7 u (by decide) (by decide))
  have HLD : Hid (∀ p F u, DiskAt u p (DD.new 7) F → Calls Try.prog 59 #[.pointer (some ⟨p, 0, none⟩)] u (GivesSu (zeroS, 2) u)) := Lib.hid (fun p F u h => by
    have := load5_any p (DD.new 7) F u h G0
    have e : (DD.new 7).load = (zeroS, 2) := by unfold DD.load; rw [if_pos (by simp [DD.new, noughts])]
    rw [e] at this; exact this)
  have HSV : Hid (∀ p F u, DiskAt u p (DD.new 7) F → Calls Try.prog 58 #[.pointer (some ⟨p, 0, none⟩), suV zeroS] u fun e w' => e = .returned (.int .i64 2) ∧ Moved p (DD.new 7) F u w') := Lib.hid (fun p F u h => by
    have := save5_any p (DD.new 7) F zeroS u h G0 (by simp [DD.new]) zeroS_ok
    have e : (DD.new 7).save zeroS = (2, DD.new 7) := by unfold DD.save; rw [if_neg (by decide)]
    rw [e] at this; exact this)
  have HKN := Lib.hid (fun u => known5_any u)
  clear G0 hn
  generalize DD.new 7 = d0 at *
  generalize someS 1 = sa at *
  go_enter Try.func13, Try.ntmps13
  go_wp2_with (first | with_reducible refine halt_load 82 ?_ | with_reducible refine halt_alloc 82 ?_ | with_reducible refine halt_store 82 ?_ | with_reducible refine halt_build 82 ?_ | with_reducible refine halt_load 37 ?_ | with_reducible refine halt_alloc 37 ?_ | with_reducible refine halt_store 37 ?_ | with_reducible refine halt_build 37 ?_)
  refine (HLN.out _).mono ?_
  rintro e w1 ⟨rfl, hg1⟩
  go_wp2_with (first | with_reducible refine halt_load 82 ?_ | with_reducible refine halt_alloc 82 ?_ | with_reducible refine halt_store 82 ?_ | with_reducible refine halt_build 82 ?_ | with_reducible refine halt_load 37 ?_ | with_reducible refine halt_alloc 37 ?_ | with_reducible refine halt_store 37 ?_ | with_reducible refine halt_build 37 ?_)
  refine L.alloc82 rfl (by rfl) ?_
  intro w2 hA2 hG2
  simp only [Act.put, List.setIfInBounds_toArray, List.set_cons_zero, List.set_cons_succ]
  go_wp2_with (first | with_reducible refine halt_load 82 ?_ | with_reducible refine halt_alloc 82 ?_ | with_reducible refine halt_store 82 ?_ | with_reducible refine halt_build 82 ?_ | with_reducible refine halt_load 37 ?_ | with_reducible refine halt_alloc 37 ?_ | with_reducible refine halt_store 37 ?_ | with_reducible refine halt_build 37 ?_)
  refine L.store82 (s := zeroS) rfl (by rfl) (by rfl) hA2 (by rw [suC_len _ (by rfl)]) rfl (by rfl) ?_
  intro w3 hA3 hG3
  simp only [Act.put]
  have g3 : GB w w3 := GB.trans _ _ _ hg1 (Below.grown hG2 hG3 hG2.size (fun k hk => by cases hk; exact Nat.le_refl _))
  clear hg1 hA2 hG2 hA3 hG3
  go_wp2_with (first | with_reducible refine halt_load 82 ?_ | with_reducible refine halt_alloc 82 ?_ | with_reducible refine halt_store 82 ?_ | with_reducible refine halt_build 82 ?_ | with_reducible refine halt_load 37 ?_ | with_reducible refine halt_alloc 37 ?_ | with_reducible refine halt_store 37 ?_ | with_reducible refine halt_build 37 ?_)
  refine (HRN.out _).mono ?_
  rintro e w4 ⟨rfl, hg4⟩
  go_wp2_with (first | with_reducible refine halt_load 82 ?_ | with_reducible refine halt_alloc 82 ?_ | with_reducible refine halt_store 82 ?_ | with_reducible refine halt_build 82 ?_ | with_reducible refine halt_load 37 ?_ | with_reducible refine halt_alloc 37 ?_ | with_reducible refine halt_store 37 ?_ | with_reducible refine halt_build 37 ?_)
  refine L.alloc rfl zero37 (by rfl) ?_
  intro w5 hA5 hG5
  simp only [Act.put, List.setIfInBounds_toArray, List.set_cons_zero, List.set_cons_succ]
  go_wp2_with (first | with_reducible refine halt_load 82 ?_ | with_reducible refine halt_alloc 82 ?_ | with_reducible refine halt_store 82 ?_ | with_reducible refine halt_build 82 ?_ | with_reducible refine halt_load 37 ?_ | with_reducible refine halt_alloc 37 ?_ | with_reducible refine halt_store 37 ?_ | with_reducible refine halt_build 37 ?_)
  refine L.store rfl info37 (by rfl) (by rfl) hA5 (by rw [List.length_map]; exact HZ.out) HZ.out (by rfl) ?_
  intro w6 hA6 hG6
  simp only [Act.put]
  have g6 : GB w w6 := GB.trans _ _ _ g3 (GB.trans _ _ _ hg4 (Below.grown hG5 hG6 hG5.size (fun k hk => by cases hk; exact Nat.le_refl _)))
  clear hg4 hA5 hG5 hA6 hG6 g3
  go_wp2_with (first | with_reducible refine halt_load 82 ?_ | with_reducible refine halt_alloc 82 ?_ | with_reducible refine halt_store 82 ?_ | with_reducible refine halt_build 82 ?_ | with_reducible refine halt_load 37 ?_ | with_reducible refine halt_alloc 37 ?_ | with_reducible refine halt_store 37 ?_ | with_reducible refine halt_build 37 ?_)
  refine (HNW.out _).mono ?_
  rintro e w7 ⟨p, F, rfl, hd, hb7, hF⟩
  have g7 := GB.trans _ _ _ g6 hb7
  have hF7 : ∀ k, F k → w.heap.size ≤ k := fun k hk => Nat.le_trans (Below.size g6) (hF k hk)
  clear g6 hb7 hF
  go_wp2_with (first | with_reducible refine halt_load 82 ?_ | with_reducible refine halt_alloc 82 ?_ | with_reducible refine halt_store 82 ?_ | with_reducible refine halt_build 82 ?_ | with_reducible refine halt_load 37 ?_ | with_reducible refine halt_alloc 37 ?_ | with_reducible refine halt_store 37 ?_ | with_reducible refine halt_build 37 ?_)
  refine (HLD.out p F _ hd).mono ?_
  rintro e w8 ⟨rfl, hg8⟩
  go_wp2_with (first | with_reducible refine halt_load 82 ?_ | with_reducible refine halt_alloc 82 ?_ | with_reducible refine halt_store 82 ?_ | with_reducible refine halt_build 82 ?_ | with_reducible refine halt_load 37 ?_ | with_reducible refine halt_alloc 37 ?_ | with_reducible refine halt_store 37 ?_ | with_reducible refine halt_build 37 ?_)
  refine L.alloc82 rfl (by rfl) ?_
  intro w9 hA9 hG9
  simp only [Act.put, List.setIfInBounds_toArray, List.set_cons_zero, List.set_cons_succ]
  go_wp2_with (first | with_reducible refine halt_load 82 ?_ | with_reducible refine halt_alloc 82 ?_ | with_reducible refine halt_store 82 ?_ | with_reducible refine halt_build 82 ?_ | with_reducible refine halt_load 37 ?_ | with_reducible refine halt_alloc 37 ?_ | with_reducible refine halt_store 37 ?_ | with_reducible refine halt_build 37 ?_)
  refine L.store82 (s := zeroS) rfl (by rfl) (by rfl) hA9 (by rw [suC_len _ (by rfl)]) rfl (by rfl) ?_
  intro w10 hA10 hG10
  simp only [Act.put]
  have g710 : GB w7 w10 := GB.trans _ _ _ hg8 (Below.grown hG9 hG10 hG9.size (fun k hk => by cases hk; exact Nat.le_refl _))
  have hd10 := hd.gb g710
  have g10 := GB.trans _ _ _ g7 g710
  clear hg8 hA9 hG9 hA10 hG10 g7 hd g710
  go_wp2_with (first | with_reducible refine halt_load 82 ?_ | with_reducible refine halt_alloc 82 ?_ | with_reducible refine halt_store 82 ?_ | with_reducible refine halt_build 82 ?_ | with_reducible refine halt_load 37 ?_ | with_reducible refine halt_alloc 37 ?_ | with_reducible refine halt_store 37 ?_ | with_reducible refine halt_build 37 ?_)
  refine L.val (by rfl) (X.build37 rfl) ?_
  simp only [Act.put, List.setIfInBounds_toArray, List.set_cons_zero, List.set_cons_succ]
  go_wp2_with (first | with_reducible refine halt_load 82 ?_ | with_reducible refine halt_alloc 82 ?_ | with_reducible refine halt_store 82 ?_ | with_reducible refine halt_build 82 ?_ | with_reducible refine halt_load 37 ?_ | with_reducible refine halt_alloc 37 ?_ | with_reducible refine halt_store 37 ?_ | with_reducible refine halt_build 37 ?_)
  refine (HWN.out _).mono ?_
  rintro e w11 ⟨rfl, hg11⟩
  go_wp2_with (first | with_reducible refine halt_load 82 ?_ | with_reducible refine halt_alloc 82 ?_ | with_reducible refine halt_store 82 ?_ | with_reducible refine halt_build 82 ?_ | with_reducible refine halt_load 37 ?_ | with_reducible refine halt_alloc 37 ?_ | with_reducible refine halt_store 37 ?_ | with_reducible refine halt_build 37 ?_)
  refine (HS1.out _).mono ?_
  rintro e w12 ⟨rfl, hg12⟩
  go_wp2_with (first | with_reducible refine halt_load 82 ?_ | with_reducible refine halt_alloc 82 ?_ | with_reducible refine halt_store 82 ?_ | with_reducible refine halt_build 82 ?_ | with_reducible refine halt_load 37 ?_ | with_reducible refine halt_alloc 37 ?_ | with_reducible refine halt_store 37 ?_ | with_reducible refine halt_build 37 ?_)
  refine (HSN.out _).mono ?_
  rintro e w13 ⟨rfl, hg13⟩
  have g1013 := GB.trans _ _ _ (GB.trans _ _ _ hg11 hg12) hg13
  have hd13 := hd10.gb g1013
  have g13 := GB.trans _ _ _ g10 g1013
  clear hg11 hg12 hg13 g1013 hd10 g10
  go_wp2_with (first | with_reducible refine halt_load 82 ?_ | with_reducible refine halt_alloc 82 ?_ | with_reducible refine halt_store 82 ?_ | with_reducible refine halt_build 82 ?_ | with_reducible refine halt_load 37 ?_ | with_reducible refine halt_alloc 37 ?_ | with_reducible refine halt_store 37 ?_ | with_reducible refine halt_build 37 ?_)
  refine L.val (by rfl) (X.build82_0 rfl) ?_
  simp only [Act.put, List.setIfInBounds_toArray, List.set_cons_zero, List.set_cons_succ]
  go_wp2_with (first | with_reducible refine halt_load 82 ?_ | with_reducible refine halt_alloc 82 ?_ | with_reducible refine halt_store 82 ?_ | with_reducible refine halt_build 82 ?_ | with_reducible refine halt_load 37 ?_ | with_reducible refine halt_alloc 37 ?_ | with_reducible refine halt_store 37 ?_ | with_reducible refine halt_build 37 ?_)
  refine (HSV.out p F _ hd13).mono ?_
  rintro e w14 ⟨rfl, F1, hd14, hf14, hs14⟩
  have g14 : GB w w14 := Below.trans g13 (hf14.below (B := w.heap.size) (fun k _ hk => hF7 k hk) (Below.size g13))
  clear hd13 hd14 hf14 hs14 g13
  go_wp2_with (first | with_reducible refine halt_load 82 ?_ | with_reducible refine halt_alloc 82 ?_ | with_reducible refine halt_store 82 ?_ | with_reducible refine halt_build 82 ?_ | with_reducible refine halt_load 37 ?_ | with_reducible refine halt_alloc 37 ?_ | with_reducible refine halt_store 37 ?_ | with_reducible refine halt_build 37 ?_)
  refine (HKN.out _).mono ?_
  rintro e w15 ⟨rfl, hg15⟩
  go_wp2_with fail
  go_ret
  exact ⟨rfl, GB.trans _ _ _ g14 hg15⟩
end Go.Proofs.Ytiihllfjlgbfcaa
