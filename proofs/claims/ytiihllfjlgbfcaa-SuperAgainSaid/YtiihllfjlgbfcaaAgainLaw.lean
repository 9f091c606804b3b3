/- The walk of the law SuperAgain; and its arguments, opened. -/
import Derived.Test.YtiihllfjlgbfcaaAgainTools
import Derived.Test.YtiihllfjlgbfcaaArgs5
namespace Go.Proofs.Ytiihllfjlgbfcaa
open Go.RowKit
set_option maxHeartbeats 4000000 in
set_option maxRecDepth 100000 in
theorem superAgain_walk (first : UInt64) (l : List Su) (hl : l.length = 4) (f0 f1 : Int) (pa : Option Addr) (A : List Int) (ac : Nat) (pb : Option Addr) (B : List Int) (bc : Nat) (w : World) (hra : Rd w pa (A.map bI)) (hrb : Rd w pb (B.map bI)) :
    Calls Try.prog 9 #[.int .u64 (n64 first), .agg (stL l).toArray, .agg #[.int .i64 f0, .int .i64 f1], .slice pa A.length ac, .slice pb B.length bc] w fun e w' => e = .returned (.bool true) ∧ GB w w' := by
  have HKN := Lib.hid (fun u => known5_any u)
  have HZ := Lib.hid (zeros_length 256)
  go_enter Try.func9, Try.ntmps9
  go_wp2_with (first | with_reducible refine halt_box 78 ?_ | with_reducible refine halt_box 79 ?_ | with_reducible refine halt_alloc 83 ?_ | with_reducible refine halt_alloc 82 ?_ | with_reducible refine halt_store 82 ?_ | with_reducible refine halt_load 82 ?_ | with_reducible refine halt_load 77 ?_ | with_reducible refine halt_store 77 ?_ | with_reducible refine halt_store 23 ?_ | with_reducible refine halt_alloc 37 ?_ | with_reducible refine halt_store 37 ?_ | with_reducible refine halt_load 37 ?_ | with_reducible refine halt_bin 82 ?_)
  refine L5.box (cs := stL l) rfl (by rfl) (by rfl) ?_
  intro w1 hL1 hG1
  simp only [Act.put, List.setIfInBounds_toArray, List.set_cons_zero, List.set_cons_succ]
  go_wp2_with (first | with_reducible refine halt_box 78 ?_ | with_reducible refine halt_box 79 ?_ | with_reducible refine halt_alloc 83 ?_ | with_reducible refine halt_alloc 82 ?_ | with_reducible refine halt_store 82 ?_ | with_reducible refine halt_load 82 ?_ | with_reducible refine halt_load 77 ?_ | with_reducible refine halt_store 77 ?_ | with_reducible refine halt_store 23 ?_ | with_reducible refine halt_alloc 37 ?_ | with_reducible refine halt_store 37 ?_ | with_reducible refine halt_load 37 ?_ | with_reducible refine halt_bin 82 ?_)
  refine L5.box (cs := [.int .i64 f0, .int .i64 f1]) rfl (by rfl) (by rfl) ?_
  intro w2 hF2 hG2
  simp only [Act.put, List.setIfInBounds_toArray, List.set_cons_zero, List.set_cons_succ]
  have hL2 := hL1.gb hG2
  have g2 := GB.trans _ _ _ hG1 hG2
  have cf0 : w2.cell? ⟨w1.heap.size, 0, none⟩ = some (.int .i64 f0) := hF2.cell 0
  have cf1 : w2.cell? ⟨w1.heap.size, 1, none⟩ = some (.int .i64 f1) := hF2.cell 1
  have hgL : w.heap.size ≤ w.heap.size := Nat.le_refl _
  have hgF : w.heap.size ≤ w1.heap.size := hG1.size
  have hLF : w.heap.size ≠ w1.heap.size := by have := hL1.lt; omega
  clear hL1 hG1 hG2
  generalize w1.heap.size = gF at *
  generalize hgl : w.heap.size = gL at *
  go_upto_region 1 with fail
  go_cut [50] (fun s wx => ∃ bb, s = .bool bb ∧ w2 = wx ∧ (bb = false → 1 ≤ n64 first ∧ n64 first ≤ 1099511627776 ∧ 0 ≤ f0 ∧ f0 ≤ 20 ∧ 0 ≤ f1 ∧ f1 ≤ 20))
  case first =>
    by_cases h1 : n64 first < 1
    · go_wp2_with fail
      go_meet
      case rel => exact ⟨true, rfl, rfl, fun h => by cases h⟩
    by_cases h2 : 1099511627776 < n64 first
    · go_wp2_with fail
      go_meet
      case rel => exact ⟨true, rfl, rfl, fun h => by cases h⟩
    by_cases h3 : f0 < 0
    · go_wp2_with fail
      go_meet
      case rel => exact ⟨true, rfl, rfl, fun h => by cases h⟩
    by_cases h4 : 20 < f0
    · go_wp2_with fail
      go_meet
      case rel => exact ⟨true, rfl, rfl, fun h => by cases h⟩
    by_cases h5 : f1 < 0
    · go_wp2_with fail
      go_meet
      case rel => exact ⟨true, rfl, rfl, fun h => by cases h⟩
    by_cases h6 : 20 < f1
    · go_wp2_with fail
      go_meet
      case rel => exact ⟨true, rfl, rfl, fun h => by cases h⟩
    · go_wp2_with fail
      go_meet
      case rel => exact ⟨false, rfl, rfl, fun _ => ⟨by omega, by omega, by omega, by omega, by omega, by omega⟩⟩
  case rest =>
    obtain ⟨bb, rfl, rfl, hbb⟩ := hcut
    cases bb
    case true =>
      go_wp2_with fail
      refine (HKN.out _).mono ?_
      rintro e w3 ⟨rfl, hb3⟩
      go_wp2_with fail
      go_ret
      exact ⟨rfl, GB.trans _ _ _ g2 hb3⟩
    obtain ⟨hn1, hn2, hf0a, hf0b, hf1a, hf1b⟩ := hbb rfl
    clear hbb
    have hnew := new_any 40 w2 (by decide) (by decide)
    go_wp2_with fail
    refine hnew.mono ?_
    rintro e w3 ⟨p, F, rfl, hd, hb3, hF⟩
    have hL3 := hL2.gb hb3
    have hF3 := hF2.gb hb3
    have g3 := GB.trans _ _ _ g2 hb3
    go_wp2_with (first | with_reducible refine halt_box 78 ?_ | with_reducible refine halt_box 79 ?_ | with_reducible refine halt_alloc 83 ?_ | with_reducible refine halt_alloc 82 ?_ | with_reducible refine halt_store 82 ?_ | with_reducible refine halt_load 82 ?_ | with_reducible refine halt_load 77 ?_ | with_reducible refine halt_store 77 ?_ | with_reducible refine halt_store 23 ?_ | with_reducible refine halt_alloc 37 ?_ | with_reducible refine halt_store 37 ?_ | with_reducible refine halt_load 37 ?_ | with_reducible refine halt_bin 82 ?_)
    refine L5.alloc83 first l rfl (by rfl) ?_
    intro w4 hS4 hG4
    simp only [Act.put, List.setIfInBounds_toArray, List.set_cons_zero, List.set_cons_succ]
    have hM4 : AgM w w4 p (DD.new 40) F [(w3.heap.size, 83, agV first l 0), (gL, 78, stL l), (gF, 79, [.int .i64 f0, .int .i64 f1])] := by
      have m0 : AgM w w4 p (DD.new 40) F [] := AgM.mk0 (hd.gb hG4) (fun k hk => Nat.le_trans (Below.size g2) (hF k hk)) (GB.trans _ _ _ g3 hG4)
      have hdl := (hd.gb hG4).lt
      refine ⟨m0.disk, fun k hk => ⟨(m0.sub k hk).1, fun b hb => ?_⟩, m0.gb, fun b hb => ?_⟩
      · have h1 := hF k hk
        have h2 := hL2.lt
        have h3 := hF2.lt
        have h4 := hd.lt k hk
        simp only [List.mem_cons, List.not_mem_nil, or_false] at hb
        rcases hb with rfl | rfl | rfl <;> simp only <;> omega
      · simp only [List.mem_cons, List.not_mem_nil, or_false] at hb
        have h1 := Below.size g3
        rcases hb with rfl | rfl | rfl
        · exact ⟨hS4, h1⟩
        · exact ⟨hL3.gb hG4, by rw [hgl]; exact Nat.le_refl _⟩
        · exact ⟨hF3.gb hG4, by rw [hgl]; exact hgF⟩
    have hne : ∀ b ∈ [(gL, 78, stL l), (gF, 79, [Value.int .i64 f0, .int .i64 f1])], b.1 ≠ w3.heap.size := fun b hb => by
      have h2 := hL3.lt
      have h3 := hF3.lt
      simp only [List.mem_cons, List.not_mem_nil, or_false] at hb
      rcases hb with rfl | rfl <;> simp only <;> omega
    clear hnew hL2 hF2 g2 cf0 cf1 hd hb3 hF hL3 hF3 g3 hS4 hG4 hgL hgF hLF
    generalize w3.heap.size = gS at *
    go_wp2_with fail
    go_loopw [14] (fun x wr => ∃ k : Nat, x = .int .i64 k ∧ k ≤ 4 ∧ AgM w wr p (DD.new 40) F [(gS, 83, agV first l k), (gL, 78, stL l), (gF, 79, [.int .i64 f0, .int .i64 f1])]) (fun x _ => 4 - (intOf x).toNat)
    case atStart => exact ⟨0, rfl, by omega, hM4⟩
    case round =>
      clear hM4
      obtain ⟨k, rfl, hk, hM⟩ := hrel
      by_cases hlt : k < 4
      · have hmn : min (k : Int) 2 = min (k : Int) 2 := rfl
        have hm0 : 0 ≤ min (k : Int) 2 := by omega
        have hm1 : min (k : Int) 2 ≤ 1000 := by omega
        have hwm := wrap_u64i _ hm0 hm1
        have hwa := wadd64 first (u64i (min (k : Int) 2))
        have hstep := agV_step first l k hlt
        have hlen := agV_len first l k (by omega)
        have hsat := stL_at l k (by omega)
        have hsl := stL_len l
        rw [hl] at hsl
        have hw32 : IntKind.u32.wrap (k : Int) = n32 (UInt32.ofNat k) := by
          rcases (show k = 0 ∨ k = 1 ∨ k = 2 ∨ k = 3 by omega) with rfl | rfl | rfl | rfl <;> decide
        generalize first + u64i (min (k : Int) 2) = tk at *
        generalize l.getD k zeroS = sk at *
        have HST := Lib.hid hstep
        clear hstep hmn hm0 hm1
        go_wp2_with fail
        refine (some5_any _ _).mono ?_
        rintro e w5 ⟨rfl, hb5⟩
        have hM5 := hM.later hb5
        go_wp2_with (first | with_reducible refine halt_box 78 ?_ | with_reducible refine halt_box 79 ?_ | with_reducible refine halt_alloc 83 ?_ | with_reducible refine halt_alloc 82 ?_ | with_reducible refine halt_store 82 ?_ | with_reducible refine halt_load 82 ?_ | with_reducible refine halt_load 77 ?_ | with_reducible refine halt_store 77 ?_ | with_reducible refine halt_store 23 ?_ | with_reducible refine halt_alloc 37 ?_ | with_reducible refine halt_store 37 ?_ | with_reducible refine halt_load 37 ?_ | with_reducible refine halt_bin 82 ?_)
        refine L5.storeS (off := k * 19) (vs := suC (someS tk)) rfl info82 (by rfl) (by rfl) hM5.b0 (by rw [hlen]; omega) rfl (suC_one _) (by rfl) ?_
        intro w6 hS6 hG6
        simp only [Act.put]
        have hM6 := hM5.store hS6 hG6 hne
        clear hM hM5 hb5 hS6 hG6
        go_wp2_with (first | with_reducible refine halt_box 78 ?_ | with_reducible refine halt_box 79 ?_ | with_reducible refine halt_alloc 83 ?_ | with_reducible refine halt_alloc 82 ?_ | with_reducible refine halt_store 82 ?_ | with_reducible refine halt_load 82 ?_ | with_reducible refine halt_load 77 ?_ | with_reducible refine halt_store 77 ?_ | with_reducible refine halt_store 23 ?_ | with_reducible refine halt_alloc 37 ?_ | with_reducible refine halt_store 37 ?_ | with_reducible refine halt_load 37 ?_ | with_reducible refine halt_bin 82 ?_)
        refine L5.loadS (off := k * 6) (l := stC sk) rfl (by rfl) Try.underlying77 info77 hM6.b1 hsat (by rw [hsl]; omega) (by rfl) ?_
        simp only [Act.put, List.setIfInBounds_toArray, List.set_cons_zero, List.set_cons_succ]
        go_wp2_with (first | with_reducible refine halt_box 78 ?_ | with_reducible refine halt_box 79 ?_ | with_reducible refine halt_alloc 83 ?_ | with_reducible refine halt_alloc 82 ?_ | with_reducible refine halt_store 82 ?_ | with_reducible refine halt_load 82 ?_ | with_reducible refine halt_load 77 ?_ | with_reducible refine halt_store 77 ?_ | with_reducible refine halt_store 23 ?_ | with_reducible refine halt_alloc 37 ?_ | with_reducible refine halt_store 37 ?_ | with_reducible refine halt_load 37 ?_ | with_reducible refine halt_bin 82 ?_)
        have hlen6 : (put (agV first l k) (k * 19) (suC (someS tk))).length = 76 := by rw [put_length _ _ _ (by rw [hlen]; show k * 19 + 19 ≤ 76; omega), hlen]
        refine L5.storeS (off := k * 19 + 13) (vs := stC sk) rfl info77 (by rfl) (by rfl) hM6.b0 (by rw [hlen6]; omega) rfl (stC_one _) (by rfl) ?_
        intro w7 hS7 hG7
        simp only [Act.put]
        have hM7 := hM6.store hS7 hG7 hne
        have hlen7 : (put (put (agV first l k) (k * 19) (suC (someS tk))) (k * 19 + 13) (stC sk)).length = 76 := by rw [put_length _ _ _ (by rw [hlen6]; show k * 19 + 13 + 6 ≤ 76; omega), hlen6]
        clear hM6 hS7 hG7
        go_wp2_with (first | with_reducible refine halt_box 78 ?_ | with_reducible refine halt_box 79 ?_ | with_reducible refine halt_alloc 83 ?_ | with_reducible refine halt_alloc 82 ?_ | with_reducible refine halt_store 82 ?_ | with_reducible refine halt_load 82 ?_ | with_reducible refine halt_load 77 ?_ | with_reducible refine halt_store 77 ?_ | with_reducible refine halt_store 23 ?_ | with_reducible refine halt_alloc 37 ?_ | with_reducible refine halt_store 37 ?_ | with_reducible refine halt_load 37 ?_ | with_reducible refine halt_bin 82 ?_)
        refine L5.store1 (off := k * 19 + 9) (v := b32 (UInt32.ofNat k)) rfl info23'' (by rfl) (by rfl) hM7.b0 (by rw [hlen7]; omega) ⟨rfl, rfl⟩ (by rfl) ?_
        intro w8 hS8 hG8
        rw [set_put _ _ _ (by rw [hlen7]; omega), HST.out] at hS8
        simp only [Act.put]
        have hM8 := hM7.store hS8 hG8 hne
        clear hM7 hS8 hG8 hlen6 hlen7
        go_wp2_with fail
        go_roundw
        case rel => exact ⟨k + 1, by go_num, by omega, hM8⟩
        case measure => simp [intOf]; omega
      · obtain rfl : k = 4 := by omega
        obtain ⟨d1, d2, e1, G1, j1, e2, G2, hmid⟩ := again_plain first l (by unfold n64 at hn1; omega) (by unfold n64 at hn2; omega)
        have G0 := DD.new_good 40 (by decide) (by decide)
        have p0 := agS_pg first l 0
        have p1 := agS_pg first l 1
        have p2 := agS_pg first l 2
        have p3 := agS_pg first l 3
        have k0 := may_ok p0 (agS_may first l 0 (by omega) (by unfold n64 at hn1; omega) (by unfold n64 at hn2; omega))
        have k1 := may_ok p1 (agS_may first l 1 (by omega) (by unfold n64 at hn1; omega) (by unfold n64 at hn2; omega))
        have k2 := may_ok p2 (agS_may first l 2 (by omega) (by unfold n64 at hn1; omega) (by unfold n64 at hn2; omega))
        have m3 := agS_may first l 3 (by omega) (by unfold n64 at hn1; omega) (by unfold n64 at hn2; omega)
        have k3 := may_ok p3 m3
        have a0 : ((agV first l 4).drop 0).take 19 = suC (agS first l 0) := agV_at first l 0 (by omega)
        have a1 : ((agV first l 4).drop 19).take 19 = suC (agS first l 1) := agV_at first l 1 (by omega)
        have a2 : ((agV first l 4).drop 38).take 19 = suC (agS first l 2) := agV_at first l 2 (by omega)
        have a3 : ((agV first l 4).drop 57).take 19 = suC (agS first l 3) := agV_at first l 3 (by omega)
        have hVl := agV_len first l 4 (Nat.le_refl _)
        generalize agV first l 4 = V at *
        generalize agS first l 0 = S0' at *
        generalize agS first l 1 = S1' at *
        generalize agS first l 2 = S2' at *
        generalize agS first l 3 = S3' at *
        have HA0 := Lib.hid a0
        have HA1 := Lib.hid a1
        have HA2 := Lib.hid a2
        have HA3 := Lib.hid a3
        have HV := Lib.hid hVl
        have HMID := Lib.hid hmid
        have HSV0 : Hid (∀ F u, DiskAt u p (DD.new 40) F → Calls Try.prog 58 #[.pointer (some ⟨p, 0, none⟩), suV S0'] u fun e w' => e = .returned (.int .i64 0) ∧ Moved p d1 F u w') := Lib.hid (fun F u h => by
          have := save5_any p (DD.new 40) F S0' u h G0 (by simp [DD.new]) k0
          rw [e1] at this; exact this)
        have HSV1 : Hid (∀ F u, DiskAt u p d1 F → Calls Try.prog 58 #[.pointer (some ⟨p, 0, none⟩), suV S1'] u fun e w' => e = .returned (.int .i64 0) ∧ Moved p d2 F u w') := Lib.hid (fun F u h => by
          have := save5_any p d1 F S1' u h G1 (by rw [j1]; simp) k1
          rw [e2] at this; exact this)
        clear a0 a1 a2 a3 hVl hmid e1 e2 G0 G1 j1 k0 k1 p0
        go_wp2_with (first | with_reducible refine halt_box 78 ?_ | with_reducible refine halt_box 79 ?_ | with_reducible refine halt_alloc 83 ?_ | with_reducible refine halt_alloc 82 ?_ | with_reducible refine halt_store 82 ?_ | with_reducible refine halt_load 82 ?_ | with_reducible refine halt_load 77 ?_ | with_reducible refine halt_store 77 ?_ | with_reducible refine halt_store 23 ?_ | with_reducible refine halt_alloc 37 ?_ | with_reducible refine halt_store 37 ?_ | with_reducible refine halt_load 37 ?_ | with_reducible refine halt_bin 82 ?_)
        refine L.val (by rfl) (X5.load82 (off := 0) rfl (by rfl) hM.b0 HA0.out (by rw [HV.out]; decide)) ?_
        simp only [Act.put, List.setIfInBounds_toArray, List.set_cons_zero, List.set_cons_succ]
        go_wp2_with (first | with_reducible refine halt_box 78 ?_ | with_reducible refine halt_box 79 ?_ | with_reducible refine halt_alloc 83 ?_ | with_reducible refine halt_alloc 82 ?_ | with_reducible refine halt_store 82 ?_ | with_reducible refine halt_load 82 ?_ | with_reducible refine halt_load 77 ?_ | with_reducible refine halt_store 77 ?_ | with_reducible refine halt_store 23 ?_ | with_reducible refine halt_alloc 37 ?_ | with_reducible refine halt_store 37 ?_ | with_reducible refine halt_load 37 ?_ | with_reducible refine halt_bin 82 ?_)
        refine (HSV0.out F _ hM.disk).mono ?_
        rintro e w5 ⟨rfl, hm5⟩
        obtain ⟨F5, hM5, -⟩ := hM.step hm5
        clear hM hm5 HSV0
        go_wp2_with (first | with_reducible refine halt_box 78 ?_ | with_reducible refine halt_box 79 ?_ | with_reducible refine halt_alloc 83 ?_ | with_reducible refine halt_alloc 82 ?_ | with_reducible refine halt_store 82 ?_ | with_reducible refine halt_load 82 ?_ | with_reducible refine halt_load 77 ?_ | with_reducible refine halt_store 77 ?_ | with_reducible refine halt_store 23 ?_ | with_reducible refine halt_alloc 37 ?_ | with_reducible refine halt_store 37 ?_ | with_reducible refine halt_load 37 ?_ | with_reducible refine halt_bin 82 ?_)
        refine L.val (by rfl) (X5.load82 (off := 19) rfl (by rfl) hM5.b0 HA1.out (by rw [HV.out]; decide)) ?_
        simp only [Act.put, List.setIfInBounds_toArray, List.set_cons_zero, List.set_cons_succ]
        go_wp2_with (first | with_reducible refine halt_box 78 ?_ | with_reducible refine halt_box 79 ?_ | with_reducible refine halt_alloc 83 ?_ | with_reducible refine halt_alloc 82 ?_ | with_reducible refine halt_store 82 ?_ | with_reducible refine halt_load 82 ?_ | with_reducible refine halt_load 77 ?_ | with_reducible refine halt_store 77 ?_ | with_reducible refine halt_store 23 ?_ | with_reducible refine halt_alloc 37 ?_ | with_reducible refine halt_store 37 ?_ | with_reducible refine halt_load 37 ?_ | with_reducible refine halt_bin 82 ?_)
        refine (HSV1.out F5 _ hM5.disk).mono ?_
        rintro e w6 ⟨rfl, hm6⟩
        obtain ⟨F6, hM6, -⟩ := hM5.step hm6
        clear hM5 hm6 HSV1
        have cf0 : w6.cell? ⟨gF, 0, none⟩ = some (.int .i64 f0) := hM6.b2.cell 0
        have hfu := fuse_any p d2 F6 f0 w6 hM6.disk G2.some
        have hfz : d2.fuse f0 = (0, { d2 with left := f0 }) := by unfold DD.fuse; rw [if_neg (by omega)]
        rw [hfz] at hfu
        have hMid := HMID.out f0 A hf0a hf0b
        generalize ({ d2 with left := f0 } : DD) = d3 at *
        obtain ⟨G3, j3, G4, j4, G5, j5, n5, x, kx, hld, hxt, hag⟩ := hMid
        go_wp2_with (first | with_reducible refine halt_box 78 ?_ | with_reducible refine halt_box 79 ?_ | with_reducible refine halt_alloc 83 ?_ | with_reducible refine halt_alloc 82 ?_ | with_reducible refine halt_store 82 ?_ | with_reducible refine halt_load 82 ?_ | with_reducible refine halt_load 77 ?_ | with_reducible refine halt_store 77 ?_ | with_reducible refine halt_store 23 ?_ | with_reducible refine halt_alloc 37 ?_ | with_reducible refine halt_store 37 ?_ | with_reducible refine halt_load 37 ?_ | with_reducible refine halt_bin 82 ?_)
        refine hfu.mono ?_
        rintro e w7 ⟨rfl, hm7⟩
        obtain ⟨F7, hM7, -⟩ := hM6.step hm7
        clear hfu hfz hm7 hM6 HMID cf0
        have hsv2 := save5_any p d3 F7 S2' w7 hM7.disk G3 (by rw [j3]; simp) k2
        generalize (d3.save S2').1 = c4 at *
        generalize (d3.save S2').2 = d4 at *
        go_wp2_with (first | with_reducible refine halt_box 78 ?_ | with_reducible refine halt_box 79 ?_ | with_reducible refine halt_alloc 83 ?_ | with_reducible refine halt_alloc 82 ?_ | with_reducible refine halt_store 82 ?_ | with_reducible refine halt_load 82 ?_ | with_reducible refine halt_load 77 ?_ | with_reducible refine halt_store 77 ?_ | with_reducible refine halt_store 23 ?_ | with_reducible refine halt_alloc 37 ?_ | with_reducible refine halt_store 37 ?_ | with_reducible refine halt_load 37 ?_ | with_reducible refine halt_bin 82 ?_)
        refine L.val (by rfl) (X5.load82 (off := 38) rfl (by rfl) hM7.b0 HA2.out (by rw [HV.out]; decide)) ?_
        simp only [Act.put, List.setIfInBounds_toArray, List.set_cons_zero, List.set_cons_succ]
        go_wp2_with (first | with_reducible refine halt_box 78 ?_ | with_reducible refine halt_box 79 ?_ | with_reducible refine halt_alloc 83 ?_ | with_reducible refine halt_alloc 82 ?_ | with_reducible refine halt_store 82 ?_ | with_reducible refine halt_load 82 ?_ | with_reducible refine halt_load 77 ?_ | with_reducible refine halt_store 77 ?_ | with_reducible refine halt_store 23 ?_ | with_reducible refine halt_alloc 37 ?_ | with_reducible refine halt_store 37 ?_ | with_reducible refine halt_load 37 ?_ | with_reducible refine halt_bin 82 ?_)
        refine hsv2.mono ?_
        rintro e w8 ⟨rfl, hm8⟩
        obtain ⟨F8, hM8, -⟩ := hM7.step hm8
        clear hsv2 hm8 hM7
        have hcr := crash_any p d4 F8 pa A ac w8 hM8.disk G4 (by omega) (hM8.gb.rd hra)
        generalize d4.crash A = d5 at *
        go_wp2_with (first | with_reducible refine halt_box 78 ?_ | with_reducible refine halt_box 79 ?_ | with_reducible refine halt_alloc 83 ?_ | with_reducible refine halt_alloc 82 ?_ | with_reducible refine halt_store 82 ?_ | with_reducible refine halt_load 82 ?_ | with_reducible refine halt_load 77 ?_ | with_reducible refine halt_store 77 ?_ | with_reducible refine halt_store 23 ?_ | with_reducible refine halt_alloc 37 ?_ | with_reducible refine halt_store 37 ?_ | with_reducible refine halt_load 37 ?_ | with_reducible refine halt_bin 82 ?_)
        refine hcr.mono ?_
        rintro e w9 ⟨rfl, hm9⟩
        obtain ⟨F9, hM9, -⟩ := hM8.step hm9
        clear hcr hm9 hM8
        have hlo := load5_any p d5 F9 w9 hM9.disk G5
        rw [hld] at hlo
        go_wp2_with (first | with_reducible refine halt_box 78 ?_ | with_reducible refine halt_box 79 ?_ | with_reducible refine halt_alloc 83 ?_ | with_reducible refine halt_alloc 82 ?_ | with_reducible refine halt_store 82 ?_ | with_reducible refine halt_load 82 ?_ | with_reducible refine halt_load 77 ?_ | with_reducible refine halt_store 77 ?_ | with_reducible refine halt_store 23 ?_ | with_reducible refine halt_alloc 37 ?_ | with_reducible refine halt_store 37 ?_ | with_reducible refine halt_load 37 ?_ | with_reducible refine halt_bin 82 ?_)
        refine hlo.mono ?_
        rintro e w10 ⟨rfl, hb10⟩
        have hM10 := hM9.later hb10
        clear hlo hM9 hb10 hld
        go_wp2_with (first | with_reducible refine halt_box 78 ?_ | with_reducible refine halt_box 79 ?_ | with_reducible refine halt_alloc 83 ?_ | with_reducible refine halt_alloc 82 ?_ | with_reducible refine halt_store 82 ?_ | with_reducible refine halt_load 82 ?_ | with_reducible refine halt_load 77 ?_ | with_reducible refine halt_store 77 ?_ | with_reducible refine halt_store 23 ?_ | with_reducible refine halt_alloc 37 ?_ | with_reducible refine halt_store 37 ?_ | with_reducible refine halt_load 37 ?_ | with_reducible refine halt_bin 82 ?_)
        refine L.alloc82 rfl (by rfl) ?_
        intro w11 hX11 hG11
        simp only [Act.put, List.setIfInBounds_toArray, List.set_cons_zero, List.set_cons_succ]
        go_wp2_with (first | with_reducible refine halt_box 78 ?_ | with_reducible refine halt_box 79 ?_ | with_reducible refine halt_alloc 83 ?_ | with_reducible refine halt_alloc 82 ?_ | with_reducible refine halt_store 82 ?_ | with_reducible refine halt_load 82 ?_ | with_reducible refine halt_load 77 ?_ | with_reducible refine halt_store 77 ?_ | with_reducible refine halt_store 23 ?_ | with_reducible refine halt_alloc 37 ?_ | with_reducible refine halt_store 37 ?_ | with_reducible refine halt_load 37 ?_ | with_reducible refine halt_bin 82 ?_)
        refine L.store82 (s := x) rfl (by rfl) (by rfl) hX11 (by rw [suC_len _ (by rfl)]) kx.pg (by rfl) ?_
        intro w12 hX12 hG12
        simp only [Act.put]
        have g12 : GB w10 w12 := Below.grown hG11 hG12 hG11.size (fun k hk => by cases hk; exact Nat.le_refl _)
        have hM12 := hM10.add w10.heap.size 82 (suC x) (Nat.le_refl _) g12 hX12
        clear hX11 hG11 hX12 hG12 g12 hM10
        generalize w10.heap.size = gX at *
        go_wp2_with (first | with_reducible refine halt_box 78 ?_ | with_reducible refine halt_box 79 ?_ | with_reducible refine halt_alloc 83 ?_ | with_reducible refine halt_alloc 82 ?_ | with_reducible refine halt_store 82 ?_ | with_reducible refine halt_load 82 ?_ | with_reducible refine halt_load 77 ?_ | with_reducible refine halt_store 77 ?_ | with_reducible refine halt_store 23 ?_ | with_reducible refine halt_alloc 37 ?_ | with_reducible refine halt_store 37 ?_ | with_reducible refine halt_load 37 ?_ | with_reducible refine halt_bin 82 ?_)
        refine L.val (by rfl) (X.load82 rfl (by rfl) hM12.b0 kx.pg) ?_
        simp only [Act.put, List.setIfInBounds_toArray, List.set_cons_zero, List.set_cons_succ]
        go_wp2_with (first | with_reducible refine halt_box 78 ?_ | with_reducible refine halt_box 79 ?_ | with_reducible refine halt_alloc 83 ?_ | with_reducible refine halt_alloc 82 ?_ | with_reducible refine halt_store 82 ?_ | with_reducible refine halt_load 82 ?_ | with_reducible refine halt_load 77 ?_ | with_reducible refine halt_store 77 ?_ | with_reducible refine halt_store 23 ?_ | with_reducible refine halt_alloc 37 ?_ | with_reducible refine halt_store 37 ?_ | with_reducible refine halt_load 37 ?_ | with_reducible refine halt_bin 82 ?_)
        refine L.val (by rfl) (X5.load82 (off := 19) rfl (by rfl) hM12.b1 HA1.out (by rw [HV.out]; decide)) ?_
        simp only [Act.put, List.setIfInBounds_toArray, List.set_cons_zero, List.set_cons_succ]
        go_wp2_with (first | with_reducible refine halt_box 78 ?_ | with_reducible refine halt_box 79 ?_ | with_reducible refine halt_alloc 83 ?_ | with_reducible refine halt_alloc 82 ?_ | with_reducible refine halt_store 82 ?_ | with_reducible refine halt_load 82 ?_ | with_reducible refine halt_load 77 ?_ | with_reducible refine halt_store 77 ?_ | with_reducible refine halt_store 23 ?_ | with_reducible refine halt_alloc 37 ?_ | with_reducible refine halt_store 37 ?_ | with_reducible refine halt_load 37 ?_ | with_reducible refine halt_bin 82 ?_)
        refine L.val (by rfl) (X.neq82 rfl (by rfl) (by rfl) kx.pg p1) ?_
        simp only [Act.put, List.setIfInBounds_toArray, List.set_cons_zero, List.set_cons_succ]
        by_cases hx1 : x = S1'
        · have hq : suEq x S1' = true := (suEq_iff _ _).2 hx1
          have hag' := fun Q => hag hx1 f1 Q hf1a hf1b
          rw [hq]
          clear hq hag hxt
          subst hx1
          have ct2 : w12.cell? ⟨gS, 38, none⟩ = some (b64 S2'.tx) := (hM12.b1.cell 38).trans (su_tx HA2.out)
          simp only [b64] at ct2
          have htr := tx_rem S2'.tx
          have hkb : S2'.tx.toNat % 2 < d5.img.length / 4 := by omega
          have hrd := read5_any p d5 F9 ((S2'.tx.toNat % 2 : Nat) : Int) w12 hM12.disk G5
          rw [readB_in _ hkb] at hrd
          have hbl := Lib.hid (blk_length G5 _ hkb)
          have hw64 : IntKind.i64.wrap ((S2'.tx.toNat % 2 : Nat) : Int) = ((S2'.tx.toNat % 2 : Nat) : Int) := wrapi _ (by omega) (by omega)
          generalize d5.blk (S2'.tx.toNat % 2) = O at *
          generalize S2'.tx.toNat % 2 = kb at *
          go_wp2_with (first | with_reducible refine halt_box 78 ?_ | with_reducible refine halt_box 79 ?_ | with_reducible refine halt_alloc 83 ?_ | with_reducible refine halt_alloc 82 ?_ | with_reducible refine halt_store 82 ?_ | with_reducible refine halt_load 82 ?_ | with_reducible refine halt_load 77 ?_ | with_reducible refine halt_store 77 ?_ | with_reducible refine halt_store 23 ?_ | with_reducible refine halt_alloc 37 ?_ | with_reducible refine halt_store 37 ?_ | with_reducible refine halt_load 37 ?_ | with_reducible refine halt_bin 82 ?_)
          refine hrd.mono ?_
          rintro e w13 ⟨rfl, hb13⟩
          have hM13 := hM12.later hb13
          clear hrd hb13 hM12 ct2 htr hw64
          go_wp2_with (first | with_reducible refine halt_box 78 ?_ | with_reducible refine halt_box 79 ?_ | with_reducible refine halt_alloc 83 ?_ | with_reducible refine halt_alloc 82 ?_ | with_reducible refine halt_store 82 ?_ | with_reducible refine halt_load 82 ?_ | with_reducible refine halt_load 77 ?_ | with_reducible refine halt_store 77 ?_ | with_reducible refine halt_store 23 ?_ | with_reducible refine halt_alloc 37 ?_ | with_reducible refine halt_store 37 ?_ | with_reducible refine halt_load 37 ?_ | with_reducible refine halt_bin 82 ?_)
          refine L.alloc rfl zero37 (by rfl) ?_
          intro w14 hO14 hG14
          simp only [Act.put, List.setIfInBounds_toArray, List.set_cons_zero, List.set_cons_succ]
          go_wp2_with (first | with_reducible refine halt_box 78 ?_ | with_reducible refine halt_box 79 ?_ | with_reducible refine halt_alloc 83 ?_ | with_reducible refine halt_alloc 82 ?_ | with_reducible refine halt_store 82 ?_ | with_reducible refine halt_load 82 ?_ | with_reducible refine halt_load 77 ?_ | with_reducible refine halt_store 77 ?_ | with_reducible refine halt_store 23 ?_ | with_reducible refine halt_alloc 37 ?_ | with_reducible refine halt_store 37 ?_ | with_reducible refine halt_load 37 ?_ | with_reducible refine halt_bin 82 ?_)
          refine L.store rfl info37 (by rfl) (by rfl) hO14 (by rw [List.length_map]; exact HZ.out) hbl.out (by rfl) ?_
          intro w15 hO15 hG15
          simp only [Act.put]
          have g15 : GB w13 w15 := Below.grown hG14 hG15 hG14.size (fun k hk => by cases hk; exact Nat.le_refl _)
          have hM15 := hM13.add w13.heap.size 37 (O.map b8) (Nat.le_refl _) g15 hO15
          clear hO14 hG14 hO15 hG15 g15 hM13
          generalize w13.heap.size = gO at *
          have cf1 : w15.cell? ⟨gF, 1, none⟩ = some (.int .i64 f1) := hM15.b4.cell 1
          have hfu := fuse_any p d5 F9 f1 w15 hM15.disk G5.some
          have hfz : d5.fuse f1 = (0, { d5 with left := f1 }) := by unfold DD.fuse; rw [if_neg (by omega)]
          rw [hfz] at hfu
          have hAg := hag' B
          have j6 : ({ d5 with left := f1 } : DD).jr = [] := j5
          generalize ({ d5 with left := f1 } : DD) = d6 at *
          obtain ⟨G6, G7, j7, G8, y, ky, hld8, hor⟩ := hAg
          clear hfz hag'
          go_wp2_with (first | with_reducible refine halt_box 78 ?_ | with_reducible refine halt_box 79 ?_ | with_reducible refine halt_alloc 83 ?_ | with_reducible refine halt_alloc 82 ?_ | with_reducible refine halt_store 82 ?_ | with_reducible refine halt_load 82 ?_ | with_reducible refine halt_load 77 ?_ | with_reducible refine halt_store 77 ?_ | with_reducible refine halt_store 23 ?_ | with_reducible refine halt_alloc 37 ?_ | with_reducible refine halt_store 37 ?_ | with_reducible refine halt_load 37 ?_ | with_reducible refine halt_bin 82 ?_)
          refine hfu.mono ?_
          rintro e w16 ⟨rfl, hm16⟩
          obtain ⟨F16, hM16, -⟩ := hM15.step hm16
          clear hfu hm16 hM15 cf1
          have hsv3 := save5_any p d6 F16 S3' w16 hM16.disk G6 (by rw [j6]; simp) k3
          generalize (d6.save S3').1 = c7 at *
          generalize (d6.save S3').2 = d7 at *
          go_wp2_with (first | with_reducible refine halt_box 78 ?_ | with_reducible refine halt_box 79 ?_ | with_reducible refine halt_alloc 83 ?_ | with_reducible refine halt_alloc 82 ?_ | with_reducible refine halt_store 82 ?_ | with_reducible refine halt_load 82 ?_ | with_reducible refine halt_load 77 ?_ | with_reducible refine halt_store 77 ?_ | with_reducible refine halt_store 23 ?_ | with_reducible refine halt_alloc 37 ?_ | with_reducible refine halt_store 37 ?_ | with_reducible refine halt_load 37 ?_ | with_reducible refine halt_bin 82 ?_)
          refine L.val (by rfl) (X5.load82 (off := 57) rfl (by rfl) hM16.b2 HA3.out (by rw [HV.out]; decide)) ?_
          simp only [Act.put, List.setIfInBounds_toArray, List.set_cons_zero, List.set_cons_succ]
          go_wp2_with (first | with_reducible refine halt_box 78 ?_ | with_reducible refine halt_box 79 ?_ | with_reducible refine halt_alloc 83 ?_ | with_reducible refine halt_alloc 82 ?_ | with_reducible refine halt_store 82 ?_ | with_reducible refine halt_load 82 ?_ | with_reducible refine halt_load 77 ?_ | with_reducible refine halt_store 77 ?_ | with_reducible refine halt_store 23 ?_ | with_reducible refine halt_alloc 37 ?_ | with_reducible refine halt_store 37 ?_ | with_reducible refine halt_load 37 ?_ | with_reducible refine halt_bin 82 ?_)
          refine hsv3.mono ?_
          rintro e w17 ⟨rfl, hm17⟩
          obtain ⟨F17, hM17, -⟩ := hM16.step hm17
          clear hsv3 hm17 hM16
          have hcr := crash_any p d7 F17 pb B bc w17 hM17.disk G7 (by omega) (hM17.gb.rd hrb)
          generalize d7.crash B = d8 at *
          go_wp2_with (first | with_reducible refine halt_box 78 ?_ | with_reducible refine halt_box 79 ?_ | with_reducible refine halt_alloc 83 ?_ | with_reducible refine halt_alloc 82 ?_ | with_reducible refine halt_store 82 ?_ | with_reducible refine halt_load 82 ?_ | with_reducible refine halt_load 77 ?_ | with_reducible refine halt_store 77 ?_ | with_reducible refine halt_store 23 ?_ | with_reducible refine halt_alloc 37 ?_ | with_reducible refine halt_store 37 ?_ | with_reducible refine halt_load 37 ?_ | with_reducible refine halt_bin 82 ?_)
          refine hcr.mono ?_
          rintro e w18 ⟨rfl, hm18⟩
          obtain ⟨F18, hM18, -⟩ := hM17.step hm18
          clear hcr hm18 hM17
          have hlo := load5_any p d8 F18 w18 hM18.disk G8
          rw [hld8] at hlo
          go_wp2_with (first | with_reducible refine halt_box 78 ?_ | with_reducible refine halt_box 79 ?_ | with_reducible refine halt_alloc 83 ?_ | with_reducible refine halt_alloc 82 ?_ | with_reducible refine halt_store 82 ?_ | with_reducible refine halt_load 82 ?_ | with_reducible refine halt_load 77 ?_ | with_reducible refine halt_store 77 ?_ | with_reducible refine halt_store 23 ?_ | with_reducible refine halt_alloc 37 ?_ | with_reducible refine halt_store 37 ?_ | with_reducible refine halt_load 37 ?_ | with_reducible refine halt_bin 82 ?_)
          refine hlo.mono ?_
          rintro e w19 ⟨rfl, hb19⟩
          have hM19 := hM18.later hb19
          have hO19 := hM19.b0
          have hS19 := hM19.b2
          have g19 := hM19.gb
          clear hlo hM18 hM19 hb19 hld8
          simp only at hO19 hS19
          go_wp2_with (first | with_reducible refine halt_box 78 ?_ | with_reducible refine halt_box 79 ?_ | with_reducible refine halt_alloc 83 ?_ | with_reducible refine halt_alloc 82 ?_ | with_reducible refine halt_store 82 ?_ | with_reducible refine halt_load 82 ?_ | with_reducible refine halt_load 77 ?_ | with_reducible refine halt_store 77 ?_ | with_reducible refine halt_store 23 ?_ | with_reducible refine halt_alloc 37 ?_ | with_reducible refine halt_store 37 ?_ | with_reducible refine halt_load 37 ?_ | with_reducible refine halt_bin 82 ?_)
          refine L.alloc82 rfl (by rfl) ?_
          intro w20 hY20 hG20
          simp only [Act.put, List.setIfInBounds_toArray, List.set_cons_zero, List.set_cons_succ]
          go_wp2_with (first | with_reducible refine halt_box 78 ?_ | with_reducible refine halt_box 79 ?_ | with_reducible refine halt_alloc 83 ?_ | with_reducible refine halt_alloc 82 ?_ | with_reducible refine halt_store 82 ?_ | with_reducible refine halt_load 82 ?_ | with_reducible refine halt_load 77 ?_ | with_reducible refine halt_store 77 ?_ | with_reducible refine halt_store 23 ?_ | with_reducible refine halt_alloc 37 ?_ | with_reducible refine halt_store 37 ?_ | with_reducible refine halt_load 37 ?_ | with_reducible refine halt_bin 82 ?_)
          refine L.store82 (s := y) rfl (by rfl) (by rfl) hY20 (by rw [suC_len _ (by rfl)]) ky.pg (by rfl) ?_
          intro w21 hY21 hG21
          simp only [Act.put]
          have g2119 : GB w19 w21 := Below.grown hG20 hG21 hG20.size (fun k hk => by cases hk; exact Nat.le_refl _)
          have hO21 := hO19.gb g2119
          have hS21 := hS19.gb g2119
          have g21 := GB.trans _ _ _ g19 g2119
          clear hY20 hG20 hG21 g2119 hO19 hS19 g19
          generalize w19.heap.size = gY at *
          go_wp2_with (first | with_reducible refine halt_box 78 ?_ | with_reducible refine halt_box 79 ?_ | with_reducible refine halt_alloc 83 ?_ | with_reducible refine halt_alloc 82 ?_ | with_reducible refine halt_store 82 ?_ | with_reducible refine halt_load 82 ?_ | with_reducible refine halt_load 77 ?_ | with_reducible refine halt_store 77 ?_ | with_reducible refine halt_store 23 ?_ | with_reducible refine halt_alloc 37 ?_ | with_reducible refine halt_store 37 ?_ | with_reducible refine halt_load 37 ?_ | with_reducible refine halt_bin 82 ?_)
          refine L.val (by rfl) (X.load82 rfl (by rfl) hY21 ky.pg) ?_
          simp only [Act.put, List.setIfInBounds_toArray, List.set_cons_zero, List.set_cons_succ]
          go_wp2_with (first | with_reducible refine halt_box 78 ?_ | with_reducible refine halt_box 79 ?_ | with_reducible refine halt_alloc 83 ?_ | with_reducible refine halt_alloc 82 ?_ | with_reducible refine halt_store 82 ?_ | with_reducible refine halt_load 82 ?_ | with_reducible refine halt_load 77 ?_ | with_reducible refine halt_store 77 ?_ | with_reducible refine halt_store 23 ?_ | with_reducible refine halt_alloc 37 ?_ | with_reducible refine halt_store 37 ?_ | with_reducible refine halt_load 37 ?_ | with_reducible refine halt_bin 82 ?_)
          refine L.val (by rfl) (X5.load82 (off := 19) rfl (by rfl) hS21 HA1.out (by rw [HV.out]; decide)) ?_
          simp only [Act.put, List.setIfInBounds_toArray, List.set_cons_zero, List.set_cons_succ]
          go_wp2_with (first | with_reducible refine halt_box 78 ?_ | with_reducible refine halt_box 79 ?_ | with_reducible refine halt_alloc 83 ?_ | with_reducible refine halt_alloc 82 ?_ | with_reducible refine halt_store 82 ?_ | with_reducible refine halt_load 82 ?_ | with_reducible refine halt_load 77 ?_ | with_reducible refine halt_store 77 ?_ | with_reducible refine halt_store 23 ?_ | with_reducible refine halt_alloc 37 ?_ | with_reducible refine halt_store 37 ?_ | with_reducible refine halt_load 37 ?_ | with_reducible refine halt_bin 82 ?_)
          refine L.val (by rfl) (X.eql82 rfl (by rfl) (by rfl) ky.pg p1) ?_
          simp only [Act.put, List.setIfInBounds_toArray, List.set_cons_zero, List.set_cons_succ]
          by_cases hy1 : y = x
          · have hq : suEq y x = true := (suEq_iff _ _).2 hy1
            rw [hq]
            go_wp2_with fail
            refine (HKN.out _).mono ?_
            rintro e w22 ⟨rfl, hb22⟩
            go_wp2_with fail
            go_ret
            exact ⟨rfl, GB.trans _ _ _ g21 hb22⟩
          have hq : suEq y x = false := by rw [Bool.eq_false_iff]; exact fun h => hy1 ((suEq_iff _ _).1 h)
          rw [hq]
          clear hq
          go_wp2_with (first | with_reducible refine halt_box 78 ?_ | with_reducible refine halt_box 79 ?_ | with_reducible refine halt_alloc 83 ?_ | with_reducible refine halt_alloc 82 ?_ | with_reducible refine halt_store 82 ?_ | with_reducible refine halt_load 82 ?_ | with_reducible refine halt_load 77 ?_ | with_reducible refine halt_store 77 ?_ | with_reducible refine halt_store 23 ?_ | with_reducible refine halt_alloc 37 ?_ | with_reducible refine halt_store 37 ?_ | with_reducible refine halt_load 37 ?_ | with_reducible refine halt_bin 82 ?_)
          refine L.val (by rfl) (X.load82 rfl (by rfl) hY21 ky.pg) ?_
          simp only [Act.put, List.setIfInBounds_toArray, List.set_cons_zero, List.set_cons_succ]
          go_wp2_with (first | with_reducible refine halt_box 78 ?_ | with_reducible refine halt_box 79 ?_ | with_reducible refine halt_alloc 83 ?_ | with_reducible refine halt_alloc 82 ?_ | with_reducible refine halt_store 82 ?_ | with_reducible refine halt_load 82 ?_ | with_reducible refine halt_load 77 ?_ | with_reducible refine halt_store 77 ?_ | with_reducible refine halt_store 23 ?_ | with_reducible refine halt_alloc 37 ?_ | with_reducible refine halt_store 37 ?_ | with_reducible refine halt_load 37 ?_ | with_reducible refine halt_bin 82 ?_)
          refine L.val (by rfl) (X5.load82 (off := 57) rfl (by rfl) hS21 HA3.out (by rw [HV.out]; decide)) ?_
          simp only [Act.put, List.setIfInBounds_toArray, List.set_cons_zero, List.set_cons_succ]
          go_wp2_with (first | with_reducible refine halt_box 78 ?_ | with_reducible refine halt_box 79 ?_ | with_reducible refine halt_alloc 83 ?_ | with_reducible refine halt_alloc 82 ?_ | with_reducible refine halt_store 82 ?_ | with_reducible refine halt_load 82 ?_ | with_reducible refine halt_load 77 ?_ | with_reducible refine halt_store 77 ?_ | with_reducible refine halt_store 23 ?_ | with_reducible refine halt_alloc 37 ?_ | with_reducible refine halt_store 37 ?_ | with_reducible refine halt_load 37 ?_ | with_reducible refine halt_bin 82 ?_)
          refine L.val (by rfl) (X.eql82 rfl (by rfl) (by rfl) ky.pg p3) ?_
          simp only [Act.put, List.setIfInBounds_toArray, List.set_cons_zero, List.set_cons_succ]
          by_cases hy3 : y = S3'
          · have hq : suEq y S3' = true := (suEq_iff _ _).2 hy3
            rw [hq]
            go_wp2_with fail
            refine (HKN.out _).mono ?_
            rintro e w22 ⟨rfl, hb22⟩
            go_wp2_with fail
            go_ret
            exact ⟨rfl, GB.trans _ _ _ g21 hb22⟩
          have hq : suEq y S3' = false := by rw [Bool.eq_false_iff]; exact fun h => hy3 ((suEq_iff _ _).1 h)
          rw [hq]
          clear hq
          obtain ⟨my, hy2, hsec⟩ := (hor.resolve_left hy1).resolve_left hy3
          have hq2 : suEq y S2' = false := by rw [Bool.eq_false_iff]; exact fun h => hy2 ((suEq_iff _ _).1 h)
          have hb3 := fun u => block5_any S3' k3 u
          have hby := fun u => block5_any y ky u
          have htn := fun u => torn_any O (blockS S3') (blockS y) hbl.out (blockS_length _) (blockS_length _) hsec u
          rw [m3] at hb3
          rw [my] at hby
          simp only [if_true] at hb3 hby
          have HB3 := Lib.hid hb3
          have HBY := Lib.hid hby
          have HTN := Lib.hid htn
          have HL3 := Lib.hid (blockS_length S3')
          have HLY := Lib.hid (blockS_length y)
          clear hb3 hby htn hsec hor hy1 hy3 hy2
          generalize blockS S3' = B3 at *
          generalize blockS y = BY at *
          go_wp2_with (first | with_reducible refine halt_box 78 ?_ | with_reducible refine halt_box 79 ?_ | with_reducible refine halt_alloc 83 ?_ | with_reducible refine halt_alloc 82 ?_ | with_reducible refine halt_store 82 ?_ | with_reducible refine halt_load 82 ?_ | with_reducible refine halt_load 77 ?_ | with_reducible refine halt_store 77 ?_ | with_reducible refine halt_store 23 ?_ | with_reducible refine halt_alloc 37 ?_ | with_reducible refine halt_store 37 ?_ | with_reducible refine halt_load 37 ?_ | with_reducible refine halt_bin 82 ?_)
          refine L.val (by rfl) (X5.load82 (off := 57) rfl (by rfl) hS21 HA3.out (by rw [HV.out]; decide)) ?_
          simp only [Act.put, List.setIfInBounds_toArray, List.set_cons_zero, List.set_cons_succ]
          go_wp2_with (first | with_reducible refine halt_box 78 ?_ | with_reducible refine halt_box 79 ?_ | with_reducible refine halt_alloc 83 ?_ | with_reducible refine halt_alloc 82 ?_ | with_reducible refine halt_store 82 ?_ | with_reducible refine halt_load 82 ?_ | with_reducible refine halt_load 77 ?_ | with_reducible refine halt_store 77 ?_ | with_reducible refine halt_store 23 ?_ | with_reducible refine halt_alloc 37 ?_ | with_reducible refine halt_store 37 ?_ | with_reducible refine halt_load 37 ?_ | with_reducible refine halt_bin 82 ?_)
          refine (HB3.out _).mono ?_
          rintro e w22 ⟨rfl, hb22⟩
          have hb22' : GB w21 w22 := hb22
          go_wp2_with (first | with_reducible refine halt_box 78 ?_ | with_reducible refine halt_box 79 ?_ | with_reducible refine halt_alloc 83 ?_ | with_reducible refine halt_alloc 82 ?_ | with_reducible refine halt_store 82 ?_ | with_reducible refine halt_load 82 ?_ | with_reducible refine halt_load 77 ?_ | with_reducible refine halt_store 77 ?_ | with_reducible refine halt_store 23 ?_ | with_reducible refine halt_alloc 37 ?_ | with_reducible refine halt_store 37 ?_ | with_reducible refine halt_load 37 ?_ | with_reducible refine halt_bin 82 ?_)
          refine L.alloc rfl zero37 (by rfl) ?_
          intro w23 hP23 hG23
          simp only [Act.put, List.setIfInBounds_toArray, List.set_cons_zero, List.set_cons_succ]
          go_wp2_with (first | with_reducible refine halt_box 78 ?_ | with_reducible refine halt_box 79 ?_ | with_reducible refine halt_alloc 83 ?_ | with_reducible refine halt_alloc 82 ?_ | with_reducible refine halt_store 82 ?_ | with_reducible refine halt_load 82 ?_ | with_reducible refine halt_load 77 ?_ | with_reducible refine halt_store 77 ?_ | with_reducible refine halt_store 23 ?_ | with_reducible refine halt_alloc 37 ?_ | with_reducible refine halt_store 37 ?_ | with_reducible refine halt_load 37 ?_ | with_reducible refine halt_bin 82 ?_)
          refine L.store rfl info37 (by rfl) (by rfl) hP23 (by rw [List.length_map]; exact HZ.out) HL3.out (by rfl) ?_
          intro w24 hP24 hG24
          simp only [Act.put]
          have g24' : GB w21 w24 := GB.trans _ _ _ hb22' (Below.grown hG23 hG24 hG23.size (fun k hk => by cases hk; exact Nat.le_refl _))
          have hO24 := hO21.gb g24'
          have hS24 := hS21.gb g24'
          have hY24 := hY21.gb g24'
          have g24 := GB.trans _ _ _ g21 g24'
          clear hP23 hG23 hG24 hb22 hb22' g24' hO21 hS21 hY21 g21
          generalize w22.heap.size = gP at *
          go_wp2_with (first | with_reducible refine halt_box 78 ?_ | with_reducible refine halt_box 79 ?_ | with_reducible refine halt_alloc 83 ?_ | with_reducible refine halt_alloc 82 ?_ | with_reducible refine halt_store 82 ?_ | with_reducible refine halt_load 82 ?_ | with_reducible refine halt_load 77 ?_ | with_reducible refine halt_store 77 ?_ | with_reducible refine halt_store 23 ?_ | with_reducible refine halt_alloc 37 ?_ | with_reducible refine halt_store 37 ?_ | with_reducible refine halt_load 37 ?_ | with_reducible refine halt_bin 82 ?_)
          refine L.val (by rfl) (X.load82 rfl (by rfl) hY24 ky.pg) ?_
          simp only [Act.put, List.setIfInBounds_toArray, List.set_cons_zero, List.set_cons_succ]
          go_wp2_with (first | with_reducible refine halt_box 78 ?_ | with_reducible refine halt_box 79 ?_ | with_reducible refine halt_alloc 83 ?_ | with_reducible refine halt_alloc 82 ?_ | with_reducible refine halt_store 82 ?_ | with_reducible refine halt_load 82 ?_ | with_reducible refine halt_load 77 ?_ | with_reducible refine halt_store 77 ?_ | with_reducible refine halt_store 23 ?_ | with_reducible refine halt_alloc 37 ?_ | with_reducible refine halt_store 37 ?_ | with_reducible refine halt_load 37 ?_ | with_reducible refine halt_bin 82 ?_)
          refine (HBY.out _).mono ?_
          rintro e w25 ⟨rfl, hb25⟩
          have hb25' : GB w24 w25 := hb25
          go_wp2_with (first | with_reducible refine halt_box 78 ?_ | with_reducible refine halt_box 79 ?_ | with_reducible refine halt_alloc 83 ?_ | with_reducible refine halt_alloc 82 ?_ | with_reducible refine halt_store 82 ?_ | with_reducible refine halt_load 82 ?_ | with_reducible refine halt_load 77 ?_ | with_reducible refine halt_store 77 ?_ | with_reducible refine halt_store 23 ?_ | with_reducible refine halt_alloc 37 ?_ | with_reducible refine halt_store 37 ?_ | with_reducible refine halt_load 37 ?_ | with_reducible refine halt_bin 82 ?_)
          refine L.alloc rfl zero37 (by rfl) ?_
          intro w26 hQ26 hG26
          simp only [Act.put, List.setIfInBounds_toArray, List.set_cons_zero, List.set_cons_succ]
          go_wp2_with (first | with_reducible refine halt_box 78 ?_ | with_reducible refine halt_box 79 ?_ | with_reducible refine halt_alloc 83 ?_ | with_reducible refine halt_alloc 82 ?_ | with_reducible refine halt_store 82 ?_ | with_reducible refine halt_load 82 ?_ | with_reducible refine halt_load 77 ?_ | with_reducible refine halt_store 77 ?_ | with_reducible refine halt_store 23 ?_ | with_reducible refine halt_alloc 37 ?_ | with_reducible refine halt_store 37 ?_ | with_reducible refine halt_load 37 ?_ | with_reducible refine halt_bin 82 ?_)
          refine L.store rfl info37 (by rfl) (by rfl) hQ26 (by rw [List.length_map]; exact HZ.out) HLY.out (by rfl) ?_
          intro w27 hQ27 hG27
          simp only [Act.put]
          have g27' : GB w24 w27 := GB.trans _ _ _ hb25' (Below.grown hG26 hG27 hG26.size (fun k hk => by cases hk; exact Nat.le_refl _))
          have hO27 := hO24.gb g27'
          have hS27 := hS24.gb g27'
          have hY27 := hY24.gb g27'
          have hP27 := hP24.gb g27'
          have g27 := GB.trans _ _ _ g24 g27'
          clear hQ26 hG26 hG27 hb25 hb25' g27' hO24 hS24 hY24 hP24 g24
          generalize w25.heap.size = gQ at *
          go_wp2_with (first | with_reducible refine halt_box 78 ?_ | with_reducible refine halt_box 79 ?_ | with_reducible refine halt_alloc 83 ?_ | with_reducible refine halt_alloc 82 ?_ | with_reducible refine halt_store 82 ?_ | with_reducible refine halt_load 82 ?_ | with_reducible refine halt_load 77 ?_ | with_reducible refine halt_store 77 ?_ | with_reducible refine halt_store 23 ?_ | with_reducible refine halt_alloc 37 ?_ | with_reducible refine halt_store 37 ?_ | with_reducible refine halt_load 37 ?_ | with_reducible refine halt_bin 82 ?_)
          refine L.val (by rfl) (X.load82 rfl (by rfl) hY27 ky.pg) ?_
          simp only [Act.put, List.setIfInBounds_toArray, List.set_cons_zero, List.set_cons_succ]
          go_wp2_with (first | with_reducible refine halt_box 78 ?_ | with_reducible refine halt_box 79 ?_ | with_reducible refine halt_alloc 83 ?_ | with_reducible refine halt_alloc 82 ?_ | with_reducible refine halt_store 82 ?_ | with_reducible refine halt_load 82 ?_ | with_reducible refine halt_load 77 ?_ | with_reducible refine halt_store 77 ?_ | with_reducible refine halt_store 23 ?_ | with_reducible refine halt_alloc 37 ?_ | with_reducible refine halt_store 37 ?_ | with_reducible refine halt_load 37 ?_ | with_reducible refine halt_bin 82 ?_)
          refine L.val (by rfl) (X5.load82 (off := 38) rfl (by rfl) hS27 HA2.out (by rw [HV.out]; decide)) ?_
          simp only [Act.put, List.setIfInBounds_toArray, List.set_cons_zero, List.set_cons_succ]
          go_wp2_with (first | with_reducible refine halt_box 78 ?_ | with_reducible refine halt_box 79 ?_ | with_reducible refine halt_alloc 83 ?_ | with_reducible refine halt_alloc 82 ?_ | with_reducible refine halt_store 82 ?_ | with_reducible refine halt_load 82 ?_ | with_reducible refine halt_load 77 ?_ | with_reducible refine halt_store 77 ?_ | with_reducible refine halt_store 23 ?_ | with_reducible refine halt_alloc 37 ?_ | with_reducible refine halt_store 37 ?_ | with_reducible refine halt_load 37 ?_ | with_reducible refine halt_bin 82 ?_)
          refine L.val (by rfl) (X.neq82 rfl (by rfl) (by rfl) ky.pg p2) ?_
          simp only [Act.put, List.setIfInBounds_toArray, List.set_cons_zero, List.set_cons_succ]
          rw [hq2]
          go_wp2_with (first | with_reducible refine halt_box 78 ?_ | with_reducible refine halt_box 79 ?_ | with_reducible refine halt_alloc 83 ?_ | with_reducible refine halt_alloc 82 ?_ | with_reducible refine halt_store 82 ?_ | with_reducible refine halt_load 82 ?_ | with_reducible refine halt_load 77 ?_ | with_reducible refine halt_store 77 ?_ | with_reducible refine halt_store 23 ?_ | with_reducible refine halt_alloc 37 ?_ | with_reducible refine halt_store 37 ?_ | with_reducible refine halt_load 37 ?_ | with_reducible refine halt_bin 82 ?_)
          refine L.load rfl Try.underlying37 info37 (by rfl) hO27 hbl.out (by rfl) ?_
          simp only [Act.put, List.setIfInBounds_toArray, List.set_cons_zero, List.set_cons_succ]
          go_wp2_with (first | with_reducible refine halt_box 78 ?_ | with_reducible refine halt_box 79 ?_ | with_reducible refine halt_alloc 83 ?_ | with_reducible refine halt_alloc 82 ?_ | with_reducible refine halt_store 82 ?_ | with_reducible refine halt_load 82 ?_ | with_reducible refine halt_load 77 ?_ | with_reducible refine halt_store 77 ?_ | with_reducible refine halt_store 23 ?_ | with_reducible refine halt_alloc 37 ?_ | with_reducible refine halt_store 37 ?_ | with_reducible refine halt_load 37 ?_ | with_reducible refine halt_bin 82 ?_)
          refine L.load rfl Try.underlying37 info37 (by rfl) hP27 HL3.out (by rfl) ?_
          simp only [Act.put, List.setIfInBounds_toArray, List.set_cons_zero, List.set_cons_succ]
          go_wp2_with (first | with_reducible refine halt_box 78 ?_ | with_reducible refine halt_box 79 ?_ | with_reducible refine halt_alloc 83 ?_ | with_reducible refine halt_alloc 82 ?_ | with_reducible refine halt_store 82 ?_ | with_reducible refine halt_load 82 ?_ | with_reducible refine halt_load 77 ?_ | with_reducible refine halt_store 77 ?_ | with_reducible refine halt_store 23 ?_ | with_reducible refine halt_alloc 37 ?_ | with_reducible refine halt_store 37 ?_ | with_reducible refine halt_load 37 ?_ | with_reducible refine halt_bin 82 ?_)
          refine L.load rfl Try.underlying37 info37 (by rfl) hQ27 HLY.out (by rfl) ?_
          simp only [Act.put, List.setIfInBounds_toArray, List.set_cons_zero, List.set_cons_succ]
          go_wp2_with (first | with_reducible refine halt_box 78 ?_ | with_reducible refine halt_box 79 ?_ | with_reducible refine halt_alloc 83 ?_ | with_reducible refine halt_alloc 82 ?_ | with_reducible refine halt_store 82 ?_ | with_reducible refine halt_load 82 ?_ | with_reducible refine halt_load 77 ?_ | with_reducible refine halt_store 77 ?_ | with_reducible refine halt_store 23 ?_ | with_reducible refine halt_alloc 37 ?_ | with_reducible refine halt_store 37 ?_ | with_reducible refine halt_load 37 ?_ | with_reducible refine halt_bin 82 ?_)
          refine (HTN.out _).mono ?_
          rintro e w28 ⟨rfl, hb28⟩
          go_wp2_with (first | with_reducible refine halt_box 78 ?_ | with_reducible refine halt_box 79 ?_ | with_reducible refine halt_alloc 83 ?_ | with_reducible refine halt_alloc 82 ?_ | with_reducible refine halt_store 82 ?_ | with_reducible refine halt_load 82 ?_ | with_reducible refine halt_load 77 ?_ | with_reducible refine halt_store 77 ?_ | with_reducible refine halt_store 23 ?_ | with_reducible refine halt_alloc 37 ?_ | with_reducible refine halt_store 37 ?_ | with_reducible refine halt_load 37 ?_ | with_reducible refine halt_bin 82 ?_)
          refine (HKN.out _).mono ?_
          rintro e w29 ⟨rfl, hb29⟩
          go_wp2_with fail
          go_ret
          exact ⟨rfl, GB.trans _ _ _ g27 (GB.trans _ _ _ hb28 hb29)⟩
        · have hq : suEq x S1' = false := by rw [Bool.eq_false_iff]; exact fun h => hx1 ((suEq_iff _ _).1 h)
          have htx := hxt hx1
          rw [hq]
          clear hq hag hxt
          have ctx : w12.cell? ⟨gX, 0, none⟩ = some (b64 x.tx) := hM12.b0.cell 0
          have cts : w12.cell? ⟨gS, 38, none⟩ = some (b64 x.tx) := (hM12.b1.cell 38).trans (by rw [su_tx HA2.out, htx])
          simp only [b64] at ctx cts
          go_wp2_with (first | with_reducible refine halt_box 78 ?_ | with_reducible refine halt_box 79 ?_ | with_reducible refine halt_alloc 83 ?_ | with_reducible refine halt_alloc 82 ?_ | with_reducible refine halt_store 82 ?_ | with_reducible refine halt_load 82 ?_ | with_reducible refine halt_load 77 ?_ | with_reducible refine halt_store 77 ?_ | with_reducible refine halt_store 23 ?_ | with_reducible refine halt_alloc 37 ?_ | with_reducible refine halt_store 37 ?_ | with_reducible refine halt_load 37 ?_ | with_reducible refine halt_bin 82 ?_)
          refine L.val (by rfl) (X.load82 rfl (by rfl) hM12.b0 kx.pg) ?_
          simp only [Act.put, List.setIfInBounds_toArray, List.set_cons_zero, List.set_cons_succ]
          go_wp2_with (first | with_reducible refine halt_box 78 ?_ | with_reducible refine halt_box 79 ?_ | with_reducible refine halt_alloc 83 ?_ | with_reducible refine halt_alloc 82 ?_ | with_reducible refine halt_store 82 ?_ | with_reducible refine halt_load 82 ?_ | with_reducible refine halt_load 77 ?_ | with_reducible refine halt_store 77 ?_ | with_reducible refine halt_store 23 ?_ | with_reducible refine halt_alloc 37 ?_ | with_reducible refine halt_store 37 ?_ | with_reducible refine halt_load 37 ?_ | with_reducible refine halt_bin 82 ?_)
          refine L.val (by rfl) (X5.load82 (off := 38) rfl (by rfl) hM12.b1 HA2.out (by rw [HV.out]; decide)) ?_
          simp only [Act.put, List.setIfInBounds_toArray, List.set_cons_zero, List.set_cons_succ]
          go_wp2_with (first | with_reducible refine halt_box 78 ?_ | with_reducible refine halt_box 79 ?_ | with_reducible refine halt_alloc 83 ?_ | with_reducible refine halt_alloc 82 ?_ | with_reducible refine halt_store 82 ?_ | with_reducible refine halt_load 82 ?_ | with_reducible refine halt_load 77 ?_ | with_reducible refine halt_store 77 ?_ | with_reducible refine halt_store 23 ?_ | with_reducible refine halt_alloc 37 ?_ | with_reducible refine halt_store 37 ?_ | with_reducible refine halt_load 37 ?_ | with_reducible refine halt_bin 82 ?_)
          refine L.val (by rfl) (X.eql82 rfl (by rfl) (by rfl) kx.pg p2) ?_
          simp only [Act.put, List.setIfInBounds_toArray, List.set_cons_zero, List.set_cons_succ]
          generalize suEq x S2' = bx
          cases bx
          all_goals
            go_wp2_with fail
            refine (HKN.out _).mono ?_
            rintro e w13 ⟨rfl, hb13⟩
            go_wp2_with fail
            go_ret
            exact ⟨rfl, GB.trans _ _ _ hM12.gb hb13⟩
/-! ### Arguments that are arrays of states, and of two numbers, opened -/
open Go.ChangeShapes Go.WideShapes
theorem trod_each {H : Type} {enc : TypeId × Value → H} {P : Program} {w : World} {base : Nat} {spare : Nat → Bool} {held : Bool} {fuel : Nat} {T E : TypeId} {n : Nat} {cs : List Value} {x : DataW H × List MemPlace}
    (ht : P.underlying T = some (.array n E)) (h : DataW.trod enc P w base spare held fuel T cs = some x) :
    ∃ k, cs.length = P.cellsOf T ∧ ∀ i, i < n → ∃ y, DataW.trod enc P w base spare held k E ((cs.drop (i * P.cellsOf E)).take (P.cellsOf E)) = some y := by
  cases fuel with
  | zero => simp [DataW.trod] at h
  | succ m =>
    rw [DataW.trod_step] at h
    unfold DataW.trodStep at h
    simp only [ht] at h
    split at h
    · rename_i hn
      simp only [Option.map_eq_some_iff] at h
      obtain ⟨ys, hy, rfl⟩ := h
      obtain ⟨h1, -⟩ := mapM_each hy
      exact ⟨m, hn, fun i hi => h1 i (by simpa using hi)⟩
    · cases h
theorem okWide_array {T E : TypeId} {n : Nat} {P : Program} {W : World} {r : Reach} {b0 : Nat} {v : Value} (ht : P.underlying T = some (.array n E)) (hok : Value.okWide P W r b0 T v) : ∃ cs : Array Value, v = .agg cs := by
  simp only [Value.okWide, ht] at hok
  obtain ⟨cs, rfl, -⟩ := hok
  exact ⟨cs, rfl⟩
set_option maxRecDepth 100000 in
theorem open_two {H : Type} {enc : TypeId × Value → H} {W : World} {base : Nat} {sp : Nat → Bool} {held : Bool} {v : Value} {d : DataW H} {ps : List MemPlace} {r : Reach} {b0 : Nat} (hok : Value.okWide Try.prog W r b0 79 v)
    (hd : DataW.Trod enc Try.prog W base sp held 79 v d ps) : ∃ x y : Int, v = .agg #[.int .i64 x, .int .i64 y] := by
  obtain ⟨cs, rfl⟩ := okWide_array Try.underlying79 hok
  obtain ⟨fuel, hf⟩ := hd
  obtain ⟨k, hl, he⟩ := trod_each Try.underlying79 hf
  rw [show Try.prog.cellsOf 79 = 2 by kernel_rfl] at hl
  rw [show Try.prog.cellsOf 3 = 1 by kernel_rfl] at he
  obtain ⟨y0, h0⟩ := he 0 (by omega)
  obtain ⟨y1, h1⟩ := he 1 (by omega)
  simp only [Value.cells] at hl h0 h1
  obtain ⟨cs⟩ := cs
  match cs, hl with
  | [u, v], _ =>
    simp only [List.drop, List.take] at h0 h1
    obtain ⟨a, rfl, -⟩ := trod_i64 h0 rfl
    obtain ⟨b, rfl, -⟩ := trod_i64 h1 rfl
    exact ⟨a, b, rfl⟩
set_option maxRecDepth 100000 in
theorem open_states {H : Type} {enc : TypeId × Value → H} {W : World} {base : Nat} {sp : Nat → Bool} {held : Bool} {v : Value} {d : DataW H} {ps : List MemPlace} {r : Reach} {b0 : Nat} (hok : Value.okWide Try.prog W r b0 78 v)
    (hd : DataW.Trod enc Try.prog W base sp held 78 v d ps) : ∃ l : List Su, l.length = 4 ∧ v = .agg (stL l).toArray := by
  obtain ⟨cs, rfl⟩ := okWide_array Try.underlying78 hok
  obtain ⟨fuel, hf⟩ := hd
  obtain ⟨k, hl, he⟩ := trod_each Try.underlying78 hf
  rw [show Try.prog.cellsOf 78 = 24 by kernel_rfl] at hl
  rw [show Try.prog.cellsOf 77 = 6 by kernel_rfl] at he
  have hs : ∀ i, i < 4 → ∃ s : Su, ((cs.toList.drop (i * 6)).take 6) = stC s := fun i hi => by
    obtain ⟨y, h⟩ := he i hi
    obtain ⟨e, l, q, b, c, m, h⟩ := state_of_cells h
    exact ⟨{ zeroS with ep := e, la := l, sq := q, bl := b, bq := c, mr := m }, h⟩
  obtain ⟨s0, e0⟩ := hs 0 (by omega)
  obtain ⟨s1, e1⟩ := hs 1 (by omega)
  obtain ⟨s2, e2⟩ := hs 2 (by omega)
  obtain ⟨s3, e3⟩ := hs 3 (by omega)
  simp only [Value.cells] at hl
  obtain ⟨cs⟩ := cs
  refine ⟨[s0, s1, s2, s3], rfl, ?_⟩
  simp only at e0 e1 e2 e3 hl
  have : cs = stL [s0, s1, s2, s3] := by
    show cs = stC s0 ++ (stC s1 ++ (stC s2 ++ (stC s3 ++ [])))
    rw [← e0, ← e1, ← e2, ← e3]
    match cs, hl with
    | [a0, a1, a2, a3, a4, a5, a6, a7, a8, a9, a10, a11, a12, a13, a14, a15, a16, a17, a18, a19, a20, a21, a22, a23], _ => rfl
  rw [← this]
end Go.Proofs.Ytiihllfjlgbfcaa
