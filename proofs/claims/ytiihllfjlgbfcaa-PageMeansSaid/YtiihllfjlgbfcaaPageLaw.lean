/- The walk of the law PageMeans. -/
import Derived.Test.YtiihllfjlgbfcaaPSame
namespace Go.Proofs.Ytiihllfjlgbfcaa
open Go.RowKit
set_option maxHeartbeats 4000000 in
set_option maxRecDepth 100000 in
theorem pageMeans_walk (no : UInt32) (i : Int) (a : Option Addr) (cs : List UInt16) (c : Nat) (B : List UInt8) (j : Int) (x : UInt8) (w : World) (hrd : Rd w a (cs.map b16)) (hBl : B.length = 256) :
    Calls Try.prog 6 #[.int .u32 (n32 no), .int .i64 i, .slice a cs.length c, arr B, .int .i64 j, .int .u8 (n8 x)] w fun e w' => e = .returned (.bool true) ∧ Below w.heap.size w w' := by
  have HL := Lib.hid hBl
  clear hBl
  go_enter Try.func6, Try.ntmps6
  go_wp2_with (first | with_reducible refine halt_box 37 ?_)
  refine L.box rfl (by rfl) (by rfl) ?_
  intro w1 hB1 hG1
  simp only [Act.put, List.setIfInBounds_toArray, List.set_cons_zero, List.set_cons_succ]
  by_cases hbig : 130 < cs.length
  · go_wp2_with fail
    refine (known7_any _).mono ?_
    rintro e w' ⟨rfl, rfl⟩
    go_wp2_with fail
    go_ret
    exact ⟨rfl, hG1⟩
  have hrd1 := hrd.below hG1
  have hg1 := hB1.lt
  have hs1 := hG1.size
  have zl := zeros_length 256
  by_cases hbad : i < 0 ∨ 255 < i ∨ 120 < cs.length
  · have hz := Lib.hid zl
    clear zl
    go_wp2_with fail
    refine (block_bad no i a cs.length c _ hbad).mono ?_
    rintro e w2 ⟨rfl, hb2⟩
    have hb2' := bgb hG1 hb2 hs1
    have hB2 := hB1.gb hb2
    clear hB1 hb2 hrd1
    go_wp2_with (first | with_reducible refine halt_alloc 37 ?_)
    refine L.alloc rfl zero37 (by rfl) ?_
    intro w3 hB3 hG3
    simp only [Act.put, List.setIfInBounds_toArray, List.set_cons_zero, List.set_cons_succ]
    go_wp2_with (first | with_reducible refine halt_store 37 ?_)
    refine L.store rfl info37 (by rfl) (by rfl) hB3 (by rw [List.length_map]; exact hz.out) hz.out (by rfl) ?_
    intro w4 hB4 hG4
    simp only [Act.put]
    have hlt2 := hB2.lt
    have hs2 := hb2'.size
    have hB5 := (hB2.gb hG3).grown hG4 (by simp; omega)
    have hb5 : Below w.heap.size w w4 := (bgb hb2' hG3 hs2).grown hG4 (by have := hG3.size; omega) (fun k hk => by simp at hk; omega)
    clear hB2 hG3 hG4 hB3 hb2'
    have hq : (!(zeros 256 == zeros 256)) = false := by simp
    by_cases hi : i < 0 ∨ 255 < i
    · have HI := Lib.hid hi
      have HX := HL
      have hBx := hB5
      have hbx := hb5
      rcases (show i < 0 ∨ (¬ i < 0 ∧ 255 < i) by omega) with hi | ⟨hi, hi'⟩
      all_goals
        go_wp2_with (first | with_reducible refine halt_load 37 ?_ | with_reducible refine halt_bin 37 ?_ | with_reducible refine halt_build 37 ?_ | with_reducible refine halt_alloc 37 ?_ | with_reducible refine halt_store 37 ?_)
        refine L.load rfl Try.underlying37 info37 (by rfl) hB4 hz.out (by rfl) ?_
        simp only [Act.put, List.setIfInBounds_toArray, List.set_cons_zero, List.set_cons_succ]
        go_wp2_with (first | with_reducible refine halt_load 37 ?_ | with_reducible refine halt_bin 37 ?_ | with_reducible refine halt_build 37 ?_ | with_reducible refine halt_alloc 37 ?_ | with_reducible refine halt_store 37 ?_)
        refine L.val (by rfl) (X.build37 rfl) ?_
        simp only [Act.put, List.setIfInBounds_toArray, List.set_cons_zero, List.set_cons_succ]
        go_wp2_with (first | with_reducible refine halt_load 37 ?_ | with_reducible refine halt_bin 37 ?_ | with_reducible refine halt_build 37 ?_ | with_reducible refine halt_alloc 37 ?_ | with_reducible refine halt_store 37 ?_)
        refine L.neq rfl Try.underlying37 guard37 (by rfl) (by rfl) hz.out hz.out (by rfl) ?_
        simp only [Act.put, List.setIfInBounds_toArray, List.set_cons_zero, List.set_cons_succ]
        go_wp2_with (first | with_reducible refine halt_load 37 ?_ | with_reducible refine halt_bin 37 ?_ | with_reducible refine halt_build 37 ?_ | with_reducible refine halt_alloc 37 ?_ | with_reducible refine halt_store 37 ?_)
        refine L.load rfl Try.underlying37 info37 (by rfl) hBx HX.out (by rfl) ?_
        simp only [Act.put, List.setIfInBounds_toArray, List.set_cons_zero, List.set_cons_succ]
        go_wp2_with fail
        refine (of_bad no i B _ HI.out).mono ?_
        rintro e w7 ⟨a7, c7, rfl, hrd7, hb7⟩
        go_wp2_with fail
        refine (known7_any _).mono ?_
        rintro e w8 ⟨rfl, rfl⟩
        go_wp2_with fail
        go_ret
        exact ⟨rfl, bgb hbx hb7 hbx.size⟩
    · have HI0 : Hid (0 ≤ i) := Lib.hid (by omega)
      have HI1 : Hid (i ≤ 255) := Lib.hid (by omega)
      have hi0 : ¬ i < 0 := by omega
      have hi1 : ¬ 255 < i := by omega
      have hi2 : 120 < cs.length := by omega
      have HX := HL
      have hBx := hB5
      have hbx := hb5
      go_wp2_with (first | with_reducible refine halt_load 37 ?_ | with_reducible refine halt_bin 37 ?_ | with_reducible refine halt_build 37 ?_ | with_reducible refine halt_alloc 37 ?_ | with_reducible refine halt_store 37 ?_)
      refine L.load rfl Try.underlying37 info37 (by rfl) hB4 hz.out (by rfl) ?_
      simp only [Act.put, List.setIfInBounds_toArray, List.set_cons_zero, List.set_cons_succ]
      go_wp2_with (first | with_reducible refine halt_load 37 ?_ | with_reducible refine halt_bin 37 ?_ | with_reducible refine halt_build 37 ?_ | with_reducible refine halt_alloc 37 ?_ | with_reducible refine halt_store 37 ?_)
      refine L.val (by rfl) (X.build37 rfl) ?_
      simp only [Act.put, List.setIfInBounds_toArray, List.set_cons_zero, List.set_cons_succ]
      go_wp2_with (first | with_reducible refine halt_load 37 ?_ | with_reducible refine halt_bin 37 ?_ | with_reducible refine halt_build 37 ?_ | with_reducible refine halt_alloc 37 ?_ | with_reducible refine halt_store 37 ?_)
      refine L.neq rfl Try.underlying37 guard37 (by rfl) (by rfl) hz.out hz.out (by rfl) ?_
      simp only [Act.put, List.setIfInBounds_toArray, List.set_cons_zero, List.set_cons_succ]
      have hof := fun u => of_good no i B u HI0.out HI1.out HX.out
      have hrf := fun u => rof_any no i B u HX.out
      have hpg : pgOf no i B = if pageBlock no i (words B 120) = B then (words B 120, 0) else ([], 4) := rfl
      have hwl := words_length B 120
      generalize pgOf no i B = P at *
      generalize pageBlock no i (words B 120) = C at *
      generalize words B 120 = W at *
      have HOF := Lib.hid hof
      have HRF := Lib.hid hrf
      have HW := Lib.hid hwl
      clear hof hrf hwl
      by_cases hCB : C = B
      · rw [if_pos hCB] at hpg
        subst hpg
        have hq : (C == B) = true := by simp [hCB]
        have HC := Lib.hid hCB
        clear hCB
        go_wp2_with (first | with_reducible refine halt_load 37 ?_ | with_reducible refine halt_bin 37 ?_ | with_reducible refine halt_build 37 ?_ | with_reducible refine halt_alloc 37 ?_ | with_reducible refine halt_store 37 ?_)
        refine L.load rfl Try.underlying37 info37 (by rfl) hBx HX.out (by rfl) ?_
        simp only [Act.put, List.setIfInBounds_toArray, List.set_cons_zero, List.set_cons_succ]
        go_wp2_with fail
        refine (HOF.out _).mono ?_
        rintro e w7 ⟨a7, c7, rfl, hrd7, hb7⟩
        have hB7 := hBx.gb hb7
        go_wp2_with (first | with_reducible refine halt_load 37 ?_ | with_reducible refine halt_bin 37 ?_ | with_reducible refine halt_build 37 ?_ | with_reducible refine halt_alloc 37 ?_ | with_reducible refine halt_store 37 ?_)
        refine L.load rfl Try.underlying37 info37 (by rfl) hB7 HX.out (by rfl) ?_
        simp only [Act.put, List.setIfInBounds_toArray, List.set_cons_zero, List.set_cons_succ]
        go_wp2_with fail
        refine (HRF.out _).mono ?_
        rintro e w8 ⟨a8, c8, rfl, hrd8, hb8⟩

        have hsame := same16_any a7 a8 W W c7 c8 w8 (by have := HW.out; unfold maxLen; omega) (by have := HW.out; unfold maxLen; omega) (hrd7.below hb8) hrd8
        rw [show (W == W) = true by simp] at hsame
        go_wp2_with fail
        refine hsame.mono ?_
        rintro e w9 ⟨rfl, hb9⟩
        go_wp2_with fail
        refine (known7_any _).mono ?_
        rintro e w10 ⟨rfl, rfl⟩
        go_wp2_with fail
        go_ret
        have h8 := bgb hbx hb7 hbx.size
        have h9 := bgb h8 hb8 h8.size
        exact ⟨rfl, bgb h9 hb9 h9.size⟩
      · rw [if_neg hCB] at hpg
        subst hpg
        have hq : (C == B) = false := by simp [hCB]
        have HC := Lib.hid hCB
        clear hCB
        go_wp2_with (first | with_reducible refine halt_load 37 ?_ | with_reducible refine halt_bin 37 ?_ | with_reducible refine halt_build 37 ?_ | with_reducible refine halt_alloc 37 ?_ | with_reducible refine halt_store 37 ?_)
        refine L.load rfl Try.underlying37 info37 (by rfl) hBx HX.out (by rfl) ?_
        simp only [Act.put, List.setIfInBounds_toArray, List.set_cons_zero, List.set_cons_succ]
        go_wp2_with fail
        refine (HOF.out _).mono ?_
        rintro e w7 ⟨a7, c7, rfl, hrd7, hb7⟩
        have hB7 := hBx.gb hb7
        go_wp2_with (first | with_reducible refine halt_load 37 ?_ | with_reducible refine halt_bin 37 ?_ | with_reducible refine halt_build 37 ?_ | with_reducible refine halt_alloc 37 ?_ | with_reducible refine halt_store 37 ?_)
        refine L.load rfl Try.underlying37 info37 (by rfl) hB7 HX.out (by rfl) ?_
        simp only [Act.put, List.setIfInBounds_toArray, List.set_cons_zero, List.set_cons_succ]
        go_wp2_with fail
        refine (HRF.out _).mono ?_
        rintro e w8 ⟨a8, c8, rfl, hrd8, hb8⟩
        go_wp2_with fail
        refine (known7_any _).mono ?_
        rintro e w10 ⟨rfl, rfl⟩
        go_wp2_with fail
        go_ret
        have h8 := bgb hbx hb7 hbx.size
        exact ⟨rfl, bgb h8 hb8 h8.size⟩
  · have HI0 : Hid (0 ≤ i) := Lib.hid (by omega)
    have HI1 : Hid (i ≤ 255) := Lib.hid (by omega)
    have hi0 : ¬ i < 0 := by omega
    have hi1 : ¬ 255 < i := by omega
    have hi2 : ¬ 120 < cs.length := by omega
    have hbg := fun u (hu : GB w1 u) => block_good no i a cs c u HI0.out HI1.out (by omega) (hrd1.below hu)
    have hrb := fun u (hu : GB w1 u) => rblock_any no i a cs c u (by omega) (hrd1.below hu)
    have hsl : (pageBlock no i cs).length = 256 := summed_length _
    generalize pageBlock no i cs = D at *
    have HD := Lib.hid hsl
    have HBG := Lib.hid hbg
    have HRB := Lib.hid hrb
    have hz := Lib.hid zl
    clear zl hsl hbg hrb hrd1 hbad
    go_wp2_with fail
    refine (HBG.out _ (GB.refl _)).mono ?_
    rintro e w2 ⟨rfl, hb2⟩
    have hb2' := bgb hG1 hb2 hs1
    have hB2 := hB1.gb hb2
    clear hB1
    go_wp2_with (first | with_reducible refine halt_load 37 ?_ | with_reducible refine halt_bin 37 ?_ | with_reducible refine halt_build 37 ?_ | with_reducible refine halt_alloc 37 ?_ | with_reducible refine halt_store 37 ?_)
    refine L.alloc rfl zero37 (by rfl) ?_
    intro w3 hB3 hG3
    simp only [Act.put, List.setIfInBounds_toArray, List.set_cons_zero, List.set_cons_succ]
    go_wp2_with (first | with_reducible refine halt_load 37 ?_ | with_reducible refine halt_bin 37 ?_ | with_reducible refine halt_build 37 ?_ | with_reducible refine halt_alloc 37 ?_ | with_reducible refine halt_store 37 ?_)
    refine L.store rfl info37 (by rfl) (by rfl) hB3 (by rw [List.length_map]; exact hz.out) HD.out (by rfl) ?_
    intro w4 hB4 hG4
    simp only [Act.put]
    have hlt2 := hB2.lt
    have hs2 := hb2'.size
    have hs3 := hG3.size
    have hs2' := hb2.size
    have hB5 := (hB2.gb hG3).grown hG4 (by simp; omega)
    have hb5 : Below w.heap.size w w4 := (bgb hb2' hG3 hs2).grown hG4 (by omega) (fun k hk => by simp at hk; omega)
    have hb15 : GB w1 w4 := Below.grown (bgb hb2 hG3 hs2') hG4 (by omega) (fun k hk => by simp at hk; omega)
    clear hB2 hG3 hG4 hB3 hb2'
    have hq0 : (D == D) = true := by simp
    have hB4' := Blk.gb hB4 (GB.drew w4)
    go_wp2_with (first | with_reducible refine halt_load 37 ?_ | with_reducible refine halt_bin 37 ?_ | with_reducible refine halt_build 37 ?_ | with_reducible refine halt_alloc 37 ?_ | with_reducible refine halt_store 37 ?_)
    refine region_gb [(0,0),(1,0),(2,0),(3,0),(4,0),(5,0),(6,0),(7,1),(8,0),(9,0)] [] (by kernel_rfl) ?_
    iterate 3 (refine S0w (v := ?_) (by rfl) (by rfl) (fun u hu N hN => ?_) ?_; rotate_left; (go_simp; exact hN); simp only [Act.put, List.setIfInBounds_toArray, List.set_cons_zero, List.set_cons_succ])
    refine S0 (by rfl) (by rfl) (fun u hu => X.load rfl (by rfl) Try.underlying37 info37 (hB4'.gb hu) HD.out) ?_
    simp only [Act.put, List.setIfInBounds_toArray, List.set_cons_zero, List.set_cons_succ]
    iterate 3 (refine S0w (v := ?_) (by rfl) (by rfl) (fun u hu N hN => ?_) ?_; rotate_left; (go_simp; exact hN); simp only [Act.put, List.setIfInBounds_toArray, List.set_cons_zero, List.set_cons_succ])
    refine S1 (by rfl) (by rfl) (fun K hK => ?_)
    go_wp2_with fail
    refine (HRB.out _ (GB.trans _ _ _ hb15 (GB.drew w4))).mono ?_
    rintro e w5 ⟨rfl, hb6⟩
    refine hK _ _ hb6 ?_
    clear hK K
    refine S0 (by rfl) (by rfl) (fun u hu => X.neq rfl (by rfl) (by rfl) Try.underlying37 guard37 HD.out HD.out) ?_
    simp only [Act.put, List.setIfInBounds_toArray, List.set_cons_zero, List.set_cons_succ]
    repeat (refine S0w (v := ?_) (by rfl) (by rfl) (fun u hu N hN => ?_) ?_; rotate_left; (go_simp; exact hN); simp only [Act.put, List.setIfInBounds_toArray, List.set_cons_zero, List.set_cons_succ])
    refine S.done ?_
    have hg45 := GB.trans _ _ _ (GB.drew w4) hb6
    have hB6 := hB5.gb hg45
    have hD6 := hB4.gb hg45
    have hbx := bgb hb5 hg45 hb5.size
    have hw23 : w.heap.size ≠ w2.heap.size := by omega
    clear hB5 hB4 hb5 hb15 hb6 hg45 hB4'
    by_cases hj : j < 0
    · have HX := HL
      have hBx := hB6
      have hof := fun u => of_good no i B u HI0.out HI1.out HX.out
      have hrf := fun u => rof_any no i B u HX.out
      have hpg : pgOf no i B = if pageBlock no i (words B 120) = B then (words B 120, 0) else ([], 4) := rfl
      have hwl := words_length B 120
      generalize pgOf no i B = P at *
      generalize pageBlock no i (words B 120) = C at *
      generalize words B 120 = W at *
      have HOF := Lib.hid hof
      have HRF := Lib.hid hrf
      have HW := Lib.hid hwl
      clear hof hrf hwl
      by_cases hCB : C = B
      · rw [if_pos hCB] at hpg
        subst hpg
        have hq : (C == B) = true := by simp [hCB]
        have HC := Lib.hid hCB
        clear hCB
        go_wp2_with (first | with_reducible refine halt_load 37 ?_ | with_reducible refine halt_bin 37 ?_ | with_reducible refine halt_build 37 ?_ | with_reducible refine halt_alloc 37 ?_ | with_reducible refine halt_store 37 ?_)
        refine L.load rfl Try.underlying37 info37 (by rfl) hBx HX.out (by rfl) ?_
        simp only [Act.put, List.setIfInBounds_toArray, List.set_cons_zero, List.set_cons_succ]
        go_wp2_with fail
        refine (HOF.out _).mono ?_
        rintro e w7 ⟨a7, c7, rfl, hrd7, hb7⟩
        have hB7 := hBx.gb hb7
        go_wp2_with (first | with_reducible refine halt_load 37 ?_ | with_reducible refine halt_bin 37 ?_ | with_reducible refine halt_build 37 ?_ | with_reducible refine halt_alloc 37 ?_ | with_reducible refine halt_store 37 ?_)
        refine L.load rfl Try.underlying37 info37 (by rfl) hB7 HX.out (by rfl) ?_
        simp only [Act.put, List.setIfInBounds_toArray, List.set_cons_zero, List.set_cons_succ]
        go_wp2_with fail
        refine (HRF.out _).mono ?_
        rintro e w8 ⟨a8, c8, rfl, hrd8, hb8⟩

        have hsame := same16_any a7 a8 W W c7 c8 w8 (by have := HW.out; unfold maxLen; omega) (by have := HW.out; unfold maxLen; omega) (hrd7.below hb8) hrd8
        rw [show (W == W) = true by simp] at hsame
        go_wp2_with fail
        refine hsame.mono ?_
        rintro e w9 ⟨rfl, hb9⟩
        go_wp2_with fail
        refine (known7_any _).mono ?_
        rintro e w10 ⟨rfl, rfl⟩
        go_wp2_with fail
        go_ret
        have h8 := bgb hbx hb7 hbx.size
        have h9 := bgb h8 hb8 h8.size
        exact ⟨rfl, bgb h9 hb9 h9.size⟩
      · rw [if_neg hCB] at hpg
        subst hpg
        have hq : (C == B) = false := by simp [hCB]
        have HC := Lib.hid hCB
        clear hCB
        go_wp2_with (first | with_reducible refine halt_load 37 ?_ | with_reducible refine halt_bin 37 ?_ | with_reducible refine halt_build 37 ?_ | with_reducible refine halt_alloc 37 ?_ | with_reducible refine halt_store 37 ?_)
        refine L.load rfl Try.underlying37 info37 (by rfl) hBx HX.out (by rfl) ?_
        simp only [Act.put, List.setIfInBounds_toArray, List.set_cons_zero, List.set_cons_succ]
        go_wp2_with fail
        refine (HOF.out _).mono ?_
        rintro e w7 ⟨a7, c7, rfl, hrd7, hb7⟩
        have hB7 := hBx.gb hb7
        go_wp2_with (first | with_reducible refine halt_load 37 ?_ | with_reducible refine halt_bin 37 ?_ | with_reducible refine halt_build 37 ?_ | with_reducible refine halt_alloc 37 ?_ | with_reducible refine halt_store 37 ?_)
        refine L.load rfl Try.underlying37 info37 (by rfl) hB7 HX.out (by rfl) ?_
        simp only [Act.put, List.setIfInBounds_toArray, List.set_cons_zero, List.set_cons_succ]
        go_wp2_with fail
        refine (HRF.out _).mono ?_
        rintro e w8 ⟨a8, c8, rfl, hrd8, hb8⟩
        go_wp2_with fail
        refine (known7_any _).mono ?_
        rintro e w10 ⟨rfl, rfl⟩
        go_wp2_with fail
        go_ret
        have h8 := bgb hbx hb7 hbx.size
        exact ⟨rfl, bgb h8 hb8 h8.size⟩
    · obtain ⟨p, rfl⟩ := Int.eq_ofNat_of_zero_le (show 0 ≤ j by omega)
      go_wp2_with (first | with_reducible refine halt_load 37 ?_ | with_reducible refine halt_bin 37 ?_ | with_reducible refine halt_build 37 ?_ | with_reducible refine halt_alloc 37 ?_ | with_reducible refine halt_store 37 ?_)
      refine L.load rfl Try.underlying37 info37 (by rfl) hD6 HD.out (by rfl) ?_
      simp only [Act.put, List.setIfInBounds_toArray, List.set_cons_zero, List.set_cons_succ]
      go_wp2_with (first | with_reducible refine halt_load 37 ?_ | with_reducible refine halt_bin 37 ?_ | with_reducible refine halt_build 37 ?_ | with_reducible refine halt_alloc 37 ?_ | with_reducible refine halt_store 37 ?_)
      refine L.store rfl info37 (by rfl) (by rfl) hB6 (by rw [List.length_map]; exact HL.out) HD.out (by rfl) ?_
      intro w6 hB7 hG7
      simp only [Act.put]
      have e1 : ((p : Int)).tmod 256 = ((p % 256 : Nat) : Int) := by rw [Int.tmod_eq_emod_of_nonneg (by omega)]; omega
      have hlt : p % 256 < 256 := Nat.mod_lt _ (by omega)
      generalize p % 256 = q at *
      have hc := hB7.get8 q (by rw [HD.out]; omega)
      have hfz := hB7.frozen q
      generalize D[q]'(by rw [HD.out]; omega) = y at *
      have l1 := xor8
      have hB8 : Blk (w6.setCell ⟨w.heap.size, q, none⟩ (.int .u8 (n8 (y ^^^ x)))) w.heap.size 37 ((D.set q (y ^^^ x)).map b8) := hB7.set8 q _
      have hb8 : Below w.heap.size w (w6.setCell ⟨w.heap.size, q, none⟩ (.int .u8 (n8 (y ^^^ x)))) := (hbx.grown hG7 hbx.size (fun k hk => by simp at hk; omega)).setCell (Nat.le_refl _) _
      clear hbx
      have hx : (D.set q (y ^^^ x)).length = 256 := by rw [List.length_set]; exact HD.out
      go_wp2_with (first | with_reducible refine halt_load 37 ?_ | with_reducible refine halt_bin 37 ?_ | with_reducible refine halt_build 37 ?_ | with_reducible refine halt_alloc 37 ?_ | with_reducible refine halt_store 37 ?_)
      generalize D.set q (y ^^^ x) = BX at *
      generalize w6.setCell ⟨w.heap.size, q, none⟩ (.int .u8 (n8 (y ^^^ x))) = w8 at *
      have HX := Lib.hid hx
      have hBx := Lib.hid hB8
      have hbx := hb8
      clear hx hB8 hb8 hB7 hG7 hc hfz l1
      have hof := fun u => of_good no i BX u HI0.out HI1.out HX.out
      have hrf := fun u => rof_any no i BX u HX.out
      have hpg : pgOf no i BX = if pageBlock no i (words BX 120) = BX then (words BX 120, 0) else ([], 4) := rfl
      have hwl := words_length BX 120
      generalize pgOf no i BX = P at *
      generalize pageBlock no i (words BX 120) = C at *
      generalize words BX 120 = W at *
      have HOF := Lib.hid hof
      have HRF := Lib.hid hrf
      have HW := Lib.hid hwl
      clear hof hrf hwl
      by_cases hCB : C = BX
      · rw [if_pos hCB] at hpg
        subst hpg
        have hq : (C == BX) = true := by simp [hCB]
        have HC := Lib.hid hCB
        clear hCB
        go_wp2_with (first | with_reducible refine halt_load 37 ?_ | with_reducible refine halt_bin 37 ?_ | with_reducible refine halt_build 37 ?_ | with_reducible refine halt_alloc 37 ?_ | with_reducible refine halt_store 37 ?_)
        refine L.load rfl Try.underlying37 info37 (by rfl) hBx.out HX.out (by rfl) ?_
        simp only [Act.put, List.setIfInBounds_toArray, List.set_cons_zero, List.set_cons_succ]
        go_wp2_with fail
        refine (HOF.out _).mono ?_
        rintro e w7 ⟨a7, c7, rfl, hrd7, hb7⟩
        have hB7 := Blk.gb hBx.out hb7
        go_wp2_with (first | with_reducible refine halt_load 37 ?_ | with_reducible refine halt_bin 37 ?_ | with_reducible refine halt_build 37 ?_ | with_reducible refine halt_alloc 37 ?_ | with_reducible refine halt_store 37 ?_)
        refine L.load rfl Try.underlying37 info37 (by rfl) hB7 HX.out (by rfl) ?_
        simp only [Act.put, List.setIfInBounds_toArray, List.set_cons_zero, List.set_cons_succ]
        go_wp2_with fail
        refine (HRF.out _).mono ?_
        rintro e w8 ⟨a8, c8, rfl, hrd8, hb8⟩

        have hsame := same16_any a7 a8 W W c7 c8 w8 (by have := HW.out; unfold maxLen; omega) (by have := HW.out; unfold maxLen; omega) (hrd7.below hb8) hrd8
        rw [show (W == W) = true by simp] at hsame
        go_wp2_with fail
        refine hsame.mono ?_
        rintro e w9 ⟨rfl, hb9⟩
        go_wp2_with fail
        refine (known7_any _).mono ?_
        rintro e w10 ⟨rfl, rfl⟩
        go_wp2_with fail
        go_ret
        have h8 := bgb hbx hb7 hbx.size
        have h9 := bgb h8 hb8 h8.size
        exact ⟨rfl, bgb h9 hb9 h9.size⟩
      · rw [if_neg hCB] at hpg
        subst hpg
        have hq : (C == BX) = false := by simp [hCB]
        have HC := Lib.hid hCB
        clear hCB
        go_wp2_with (first | with_reducible refine halt_load 37 ?_ | with_reducible refine halt_bin 37 ?_ | with_reducible refine halt_build 37 ?_ | with_reducible refine halt_alloc 37 ?_ | with_reducible refine halt_store 37 ?_)
        refine L.load rfl Try.underlying37 info37 (by rfl) hBx.out HX.out (by rfl) ?_
        simp only [Act.put, List.setIfInBounds_toArray, List.set_cons_zero, List.set_cons_succ]
        go_wp2_with fail
        refine (HOF.out _).mono ?_
        rintro e w7 ⟨a7, c7, rfl, hrd7, hb7⟩
        have hB7 := Blk.gb hBx.out hb7
        go_wp2_with (first | with_reducible refine halt_load 37 ?_ | with_reducible refine halt_bin 37 ?_ | with_reducible refine halt_build 37 ?_ | with_reducible refine halt_alloc 37 ?_ | with_reducible refine halt_store 37 ?_)
        refine L.load rfl Try.underlying37 info37 (by rfl) hB7 HX.out (by rfl) ?_
        simp only [Act.put, List.setIfInBounds_toArray, List.set_cons_zero, List.set_cons_succ]
        go_wp2_with fail
        refine (HRF.out _).mono ?_
        rintro e w8 ⟨a8, c8, rfl, hrd8, hb8⟩
        go_wp2_with fail
        refine (known7_any _).mono ?_
        rintro e w10 ⟨rfl, rfl⟩
        go_wp2_with fail
        go_ret
        have h8 := bgb hbx hb7 hbx.size
        exact ⟨rfl, bgb h8 hb8 h8.size⟩
end Go.Proofs.Ytiihllfjlgbfcaa
