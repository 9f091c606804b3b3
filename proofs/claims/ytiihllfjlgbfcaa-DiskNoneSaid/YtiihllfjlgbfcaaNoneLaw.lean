/- The walk of the law DiskNone. -/
import Derived.Test.YtiihllfjlgbfcaaDKnown
namespace Go.Proofs.Ytiihllfjlgbfcaa
open Go.RowKit
set_option maxRecDepth 100000 in
theorem read_no (v : Value) (i : Int) (w : World) (h : NoDisk w v) : Calls Try.prog 42 #[v, .int .i64 i] w (GivesArr (zeros 64) 1 w) := by
  have hz := Lib.hid (zeros_length 64)
  have HH := Lib.hid (fun w1 (hG : GB w w1) => has_no v i w1 (h.gb hG))
  go_enter Try.func42, Try.ntmps42
  go_wp2_with (first | with_reducible refine halt_alloc 59 ?_)
  refine L.alloc rfl zero59 (by rfl) ?_
  intro w1 hA hG
  simp only [Act.put, List.setIfInBounds_toArray, List.set_cons_zero, List.set_cons_succ]
  go_wp2_with fail
  refine (HH.out _ hG).mono ?_
  rintro e w2 ⟨rfl, rfl⟩
  go_wp2_with (first | with_reducible refine halt_build 59 ?_ | with_reducible refine halt_store 59 ?_)
  refine L.val (by rfl) (X.build59 rfl) ?_
  simp only [Act.put, List.setIfInBounds_toArray, List.set_cons_zero, List.set_cons_succ]
  go_wp2_with (first | with_reducible refine halt_build 59 ?_ | with_reducible refine halt_store 59 ?_)
  refine L.store rfl info59 (by rfl) (by rfl) hA (by rw [List.length_map]; exact hz.out) hz.out (by rfl) ?_
  intro w3 hB hG3
  simp only [Act.put]
  go_wp2_with fail
  refine ret_cell2 rfl (by rfl) Try.underlying59 info59 hB hz.out (by rfl) rfl ?_
  exact ⟨rfl, Below.grown hG hG3 hG.size (fun k hk => by cases hk; exact Nat.le_refl _)⟩
set_option maxRecDepth 100000 in
theorem write_no (v : Value) (i : Int) (s : List UInt8) (w : World) (h : NoDisk w v) : Calls Try.prog 43 #[v, .int .i64 i, arr s] w fun e w' => e = .returned (.int .i64 1) ∧ GB w w' := by
  have HH := Lib.hid (fun w1 (hG : GB w w1) => has_no v i w1 (h.gb hG))
  go_enter Try.func43, Try.ntmps43
  go_wp2_with (first | with_reducible refine halt_box 59 ?_)
  refine L.box rfl (by rfl) (by rfl) ?_
  intro w1 hA hG
  simp only [Act.put, List.setIfInBounds_toArray, List.set_cons_zero, List.set_cons_succ]
  go_wp2_with fail
  refine (HH.out _ hG).mono ?_
  rintro e w2 ⟨rfl, rfl⟩
  go_wp2_with fail
  go_ret
  exact ⟨rfl, hG⟩
theorem copy_no (v : Value) (w : World) (h : NoDisk w v) : Calls Try.prog 46 #[v] w fun e w' => e = .returned (.pointer none) ∧ w = w' := by
  have hs := sectors_no v w h
  go_enter Try.func46, Try.ntmps46
  go_wp2_with fail
  refine hs.mono ?_
  rintro e w2 ⟨rfl, rfl⟩
  go_wp2_with fail
  go_ret
  exact ⟨rfl, rfl⟩
/-- Same, where a side has no sectors. -/
theorem same_no (v x : Value) (m n : Nat) (w : World) (hv : Calls Try.prog 39 #[v] w fun e w' => e = .returned (.int .i64 m) ∧ w = w') (hx : Calls Try.prog 39 #[x] w fun e w' => e = .returned (.int .i64 n) ∧ w = w') (h : m = 0 ∨ n = 0) :
    Calls Try.prog 49 #[v, x] w fun e w' => e = .returned (.bool (decide (m = n))) ∧ w = w' := by
  have HV := Lib.hid hv
  have HX := Lib.hid hx
  clear hv hx
  go_enter Try.func49, Try.ntmps49
  by_cases hm : m = 0
  · subst hm
    go_wp2_with fail
    refine HV.out.mono ?_
    rintro e w2 ⟨rfl, rfl⟩
    go_wp2_with fail
    refine HV.out.mono ?_
    rintro e w2 ⟨rfl, rfl⟩
    go_wp2_with fail
    refine HX.out.mono ?_
    rintro e w2 ⟨rfl, rfl⟩
    by_cases hn : n = 0
    · subst hn
      go_wp2_with fail
      go_ret
      exact ⟨rfl, rfl⟩
    · have hq : ((0 : Int) == (n : Int)) = false := by rw [beq_eq_false_iff_ne]; omega
      have hq2 : decide (0 = n) = false := by rw [decide_eq_false_iff_not]; omega
      go_wp2_with fail
      go_ret
      refine ⟨?_, rfl⟩
      first | rfl | simp [hq2]
  · have hn : n = 0 := by omega
    subst hn
    have hq : ((m : Int) == 0) = false := by rw [beq_eq_false_iff_ne]; omega
    have hq2 : decide (m = 0) = false := by rw [decide_eq_false_iff_not]; omega
    go_wp2_with fail
    refine HV.out.mono ?_
    rintro e w2 ⟨rfl, rfl⟩
    go_wp2_with fail
    refine HX.out.mono ?_
    rintro e w2 ⟨rfl, rfl⟩
    go_wp2_with fail
    refine HV.out.mono ?_
    rintro e w2 ⟨rfl, rfl⟩
    go_wp2_with fail
    refine HX.out.mono ?_
    rintro e w2 ⟨rfl, rfl⟩
    go_wp2_with fail
    go_ret
    refine ⟨?_, rfl⟩
    first | rfl | simp [hq2]
theorem big_new (n : Nat) (h0 : 0 < n) (h1 : n = 8192) : ∃ D : DD, DGood D ∧ D.img.length = n ∧ D.grow 8193 = (2, D) ∧ D.fuse (-1) = (2, D) ∧ D.grow 8192 = (0, D) ∧ ∀ u, Calls Try.prog 37 #[.int .i64 n] u (GivesDisk D u) := by
  have hl : (DD.new n).img.length = n := by simp [DD.new, noughts]
  refine ⟨DD.new n, DD.new_good n h0 (by omega), hl, ?_, ?_, ?_, fun u => new_any n u h0 (by omega)⟩
  · unfold DD.grow; rw [if_pos (by omega)]
  · unfold DD.fuse; rw [if_pos (by omega)]
  · unfold DD.grow
    rw [if_neg (by rw [hl]; omega), if_neg (by simp [DD.new]), hl]
    rw [show Int.toNat 8192 - n = 0 by omega]
    unfold noughts
    rw [List.replicate_zero, List.append_nil]
set_option maxHeartbeats 8000000 in
set_option maxRecDepth 100000 in
theorem none_walk (w : World) : Calls Try.prog 7 #[] w fun e w' => e = .returned (.bool true) ∧ GB w w' := by
  have hkn := Lib.hid (fun u => known3_any u)
  obtain ⟨D, hdg, hl, hg1, hf1, hg2, hn⟩ := big_new 8192 (by decide) rfl
  have hN := Lib.hid hn
  have hN2 := Lib.hid (fun u => new_bad 8193 u (by decide))
  have hz64 := Lib.hid (zeros_length 64)
  have HG1 := Lib.hid hg1
  have HF1 := Lib.hid hf1
  have HG2 := Lib.hid hg2
  have HL := Lib.hid hl
  clear hl hg1 hf1 hg2 hn
  have hP := Blk.new w [.slice none 0 0, .slice none 0 0, .int .i64 0, .bool false] 52
  have gP : GB w (w.alloc (.cells #[.slice none 0 0, .slice none 0 0, .int .i64 0, .bool false] 52)) := (Below.refl _ _).alloc (Nat.le_refl _) _
  change Blk (w.alloc (.cells #[.slice none 0 0, .slice none 0 0, .int .i64 0, .bool false] 52)) _ _ _ at hP
  go_enter Try.func7, Try.ntmps7
  go_wp2_with fail
  generalize w.alloc (.cells #[.slice none 0 0, .slice none 0 0, .int .i64 0, .bool false] 52) = w1 at *
  refine (hN.out _).mono ?_
  rintro e w2 ⟨p, F, rfl, hd, hb, hF⟩
  have M : Mine w1 w2 p D := ⟨F, hd, hF, hb⟩
  clear hd hF hb F
  go_wp2_with fail
  refine (hN2.out _).mono ?_
  rintro e v0 ⟨rfl, rfl⟩
  go_wp2_with fail
  refine (num_any 0 _).mono ?_
  rintro e v1 ⟨rfl, rfl⟩
  go_wp2_with fail
  refine (num_any 2 _).mono ?_
  rintro e v2 ⟨rfl, rfl⟩
  go_wp2_with fail
  obtain ⟨F, hd, hF, hg⟩ := M
  have hs := sectors_any p D F _ hd
  rw [HL.out] at hs
  refine hs.mono ?_
  rintro e v3 ⟨rfl, rfl⟩
  clear hs
  have hgr := grow_any p D F 8193 _ hd hdg
  rw [HG1.out] at hgr
  go_wp2_with fail
  refine hgr.mono ?_
  rintro e v4 ⟨rfl, hm⟩
  have M := Mine.step hF hg hm
  clear hgr hm hF hg hd F
  go_wp2_with fail
  refine (num_any 2 _).mono ?_
  rintro e v5 ⟨rfl, rfl⟩
  go_wp2_with fail
  obtain ⟨F, hd, hF, hg⟩ := M
  have hfu := fuse_any p D F (-1) _ hd hdg.some
  rw [HF1.out] at hfu
  refine hfu.mono ?_
  rintro e v6 ⟨rfl, hm⟩
  have M := Mine.step hF hg hm
  clear hfu hm hF hg hd F
  go_wp2_with fail
  refine (num_any 2 _).mono ?_
  rintro e v7 ⟨rfl, rfl⟩
  go_wp2_with fail
  obtain ⟨F, hd, hF, hg⟩ := M
  have hgr := grow_any p D F 8192 _ hd hdg
  rw [HG2.out] at hgr
  refine hgr.mono ?_
  rintro e v8 ⟨rfl, hm⟩
  have M := Mine.step hF hg hm
  clear hgr hm hF hg hd F
  go_wp2_with fail
  refine (num_any 0 _).mono ?_
  rintro e v9 ⟨rfl, rfl⟩
  go_wp2_with fail
  go_loopw [7] (fun x wr => ∃ i : Nat, x = .int .i64 i ∧ i ≤ 2 ∧ GB v8 wr) (fun x _ => 2 - (intOf x).toNat)
  case atStart => exact ⟨0, rfl, by omega, GB.refl _⟩
  case round =>
    obtain ⟨i, rfl, hi, hgr⟩ := hrel
    have hg1 : GB w1 wr := by obtain ⟨F, -, -, hg⟩ := M; exact GB.trans _ _ _ hg hgr
    have hMR := M.gb hgr
    obtain ⟨F, hdd, -, -⟩ := hMR
    have hsD : ∀ u, GB wr u → Calls Try.prog 39 #[.pointer (some ⟨p, 0, none⟩)] u fun e w' => e = .returned (.int .i64 ((8192 : Nat) : Int)) ∧ u = w' := fun u hu => by
      have := sectors_any p D F u (hdd.gb hu)
      rw [HL.out] at this
      exact this
    have hno0 : ∀ u, GB wr u → NoDisk u (.pointer none) := fun u _ => .inl rfl
    have hno1 : ∀ u, GB wr u → NoDisk u (.pointer (some ⟨w.heap.size, 0, none⟩)) := fun u hu => .inr ⟨_, rfl, hP.gb (GB.trans _ _ _ hg1 hu)⟩
    have mk : ∀ v, (∀ u, GB wr u → NoDisk u v) →
        Hid (∀ u, GB wr u → Calls Try.prog 42 #[v, .int .i64 0] u (GivesArr (zeros 64) 1 u)) ∧ Hid (∀ u, GB wr u → Calls Try.prog 43 #[v, .int .i64 0, arr (zeros 64)] u fun e w' => e = .returned (.int .i64 1) ∧ GB u w') ∧
        Hid (∀ u, GB wr u → Calls Try.prog 44 #[v] u fun e w' => e = .returned (.int .i64 1) ∧ u = w') ∧ Hid (∀ u, GB wr u → Calls Try.prog 41 #[v, .int .i64 0] u fun e w' => e = .returned (.int .i64 1) ∧ u = w') ∧
        Hid (∀ u, GB wr u → Calls Try.prog 45 #[v, .slice none 0 0] u fun e w' => e = .returned (.int .i64 1) ∧ u = w') ∧ Hid (∀ u, GB wr u → Calls Try.prog 40 #[v, .int .i64 1] u fun e w' => e = .returned (.int .i64 1) ∧ u = w') ∧
        Hid (∀ u, GB wr u → Calls Try.prog 46 #[v] u fun e w' => e = .returned (.pointer none) ∧ u = w') ∧ Hid (∀ u, GB wr u → Calls Try.prog 39 #[v] u fun e w' => e = .returned (.int .i64 0) ∧ u = w') ∧
        Hid (∀ u, GB wr u → Calls Try.prog 47 #[v] u fun e w' => e = .returned (.bool false) ∧ u = w') ∧ Hid (∀ u, GB wr u → Calls Try.prog 48 #[v] u fun e w' => e = .returned (.slice none 0 0) ∧ u = w') ∧
        Hid (∀ u, GB wr u → Calls Try.prog 49 #[v, .pointer none] u fun e w' => e = .returned (.bool true) ∧ u = w') ∧ Hid (∀ u, GB wr u → Calls Try.prog 49 #[v, .pointer (some ⟨p, 0, none⟩)] u fun e w' => e = .returned (.bool false) ∧ u = w') ∧
        Hid (∀ u, GB wr u → Calls Try.prog 49 #[.pointer (some ⟨p, 0, none⟩), v] u fun e w' => e = .returned (.bool false) ∧ u = w') := fun v hv =>
      ⟨Lib.hid fun u hu => read_no v 0 u (hv u hu), Lib.hid fun u hu => write_no v 0 (zeros 64) u (hv u hu), Lib.hid fun u hu => flush_no v u (hv u hu), Lib.hid fun u hu => fuse_no v 0 u (hv u hu),
        Lib.hid fun u hu => crash_no v _ u (hv u hu), Lib.hid fun u hu => grow_no v 1 u (hv u hu), Lib.hid fun u hu => copy_no v u (hv u hu), Lib.hid fun u hu => sectors_no v u (hv u hu),
        Lib.hid fun u hu => dead_no v u (hv u hu), Lib.hid fun u hu => dopen_no v u (hv u hu),
        Lib.hid fun u hu => (same_no v _ 0 0 u (sectors_no v u (hv u hu)) (sectors_no _ u (hno0 u hu)) (.inl rfl)).mono fun e w' ⟨h1, h2⟩ => ⟨h1.trans rfl, h2⟩,
        Lib.hid fun u hu => (same_no v _ 0 8192 u (sectors_no v u (hv u hu)) (hsD u hu) (.inl rfl)).mono fun e w' ⟨h1, h2⟩ => ⟨h1.trans rfl, h2⟩,
        Lib.hid fun u hu => (same_no _ v 8192 0 u (hsD u hu) (sectors_no v u (hv u hu)) (.inr rfl)).mono fun e w' ⟨h1, h2⟩ => ⟨h1.trans rfl, h2⟩⟩
    have K0 := mk _ hno0
    have K1 := mk _ hno1
    clear mk hno0 hno1 hsD hdd hg1 F
    by_cases hi2 : i = 2
    · subst hi2
      clear K0 K1
      go_wp2_with fail
      refine (hkn.out _).mono ?_
      rintro e w9 ⟨rfl, hb9⟩
      go_wp2_with fail
      go_ret
      have hgM : GB w1 v8 := by obtain ⟨F, -, -, hg⟩ := M; exact hg
      exact ⟨rfl, GB.trans _ _ _ gP (GB.trans _ _ _ hgM (GB.trans _ _ _ hgr hb9))⟩
    · obtain rfl | rfl : i = 0 ∨ i = 1 := by omega
      · obtain ⟨k1, k2, k3, k4, k5, k6, k7, k8, k9, k10, k11, k12, k13⟩ := K0
        clear K1 hi2 hP gP
        go_wp2_with fail
        refine (k1.out _ (GB.refl _)).mono ?_
        rintro e w5 ⟨rfl, hb5⟩
        simp only
        go_wp2_with (first | with_reducible refine halt_alloc 59 ?_ | with_reducible refine halt_store 59 ?_)
        refine L.alloc rfl zero59 (by rfl) ?_
        intro w8 hA8 hG8
        simp only [Act.put, List.setIfInBounds_toArray, List.set_cons_zero, List.set_cons_succ]
        go_wp2_with (first | with_reducible refine halt_alloc 59 ?_ | with_reducible refine halt_store 59 ?_)
        refine L.store rfl info59 (by rfl) (by rfl) hA8 (by rw [List.length_map]; exact hz64.out) hz64.out (by rfl) ?_
        intro w9 hA9 hG9
        simp only [Act.put]
        have hb8 := GB.trans _ _ _ hb5 hG8
        have hx : GB wr w9 := Below.grown hb8 hG9 hb8.size (fun j hj => by rw [← Option.some.inj hj]; exact hb5.size)
        clear hb5 hb8 hG8 hG9 hA8 hA9 k1
        go_wp2_with fail
        refine (num_any 1 _).mono ?_
        rintro e y ⟨rfl, rfl⟩
        go_wp2_with fail
        refine (k2.out _ hx).mono ?_
        rintro e w10 ⟨rfl, hb10⟩
        replace hx := GB.trans _ _ _ hx hb10
        clear hb10
        go_wp2_with fail
        refine (num_any 1 _).mono ?_
        rintro e x2 ⟨rfl, rfl⟩
        go_wp2_with fail
        refine (k3.out _ hx).mono ?_
        rintro e y ⟨rfl, rfl⟩
        go_wp2_with fail
        refine (num_any 1 _).mono ?_
        rintro e x3 ⟨rfl, rfl⟩
        go_wp2_with fail
        refine (k4.out _ hx).mono ?_
        rintro e y ⟨rfl, rfl⟩
        go_wp2_with fail
        refine (num_any 1 _).mono ?_
        rintro e x3 ⟨rfl, rfl⟩
        go_wp2_with fail
        refine (k5.out _ hx).mono ?_
        rintro e y ⟨rfl, rfl⟩
        go_wp2_with fail
        refine (num_any 1 _).mono ?_
        rintro e x3 ⟨rfl, rfl⟩
        go_wp2_with fail
        refine (k6.out _ hx).mono ?_
        rintro e y ⟨rfl, rfl⟩
        go_wp2_with fail
        refine (num_any 1 _).mono ?_
        rintro e x3 ⟨rfl, rfl⟩
        go_wp2_with fail
        refine (k7.out _ hx).mono ?_
        rintro e y ⟨rfl, rfl⟩
        go_wp2_with fail
        refine (k8.out _ hx).mono ?_
        rintro e y ⟨rfl, rfl⟩
        go_wp2_with fail
        refine (k9.out _ hx).mono ?_
        rintro e y ⟨rfl, rfl⟩
        go_wp2_with fail
        refine (k10.out _ hx).mono ?_
        rintro e y ⟨rfl, rfl⟩
        go_wp2_with fail
        refine (k11.out _ hx).mono ?_
        rintro e y ⟨rfl, rfl⟩
        go_wp2_with fail
        refine (k12.out _ hx).mono ?_
        rintro e y ⟨rfl, rfl⟩
        go_wp2_with fail
        refine (k13.out _ hx).mono ?_
        rintro e y ⟨rfl, rfl⟩
        go_wp2_with fail
        go_roundw
        case rel => exact ⟨1, rfl, by omega, GB.trans _ _ _ hgr hx⟩
        case measure => simp [intOf]
      · obtain ⟨k1, k2, k3, k4, k5, k6, k7, k8, k9, k10, k11, k12, k13⟩ := K1
        clear K0 hi2 hP gP
        go_wp2_with fail
        refine (k1.out _ (GB.refl _)).mono ?_
        rintro e w5 ⟨rfl, hb5⟩
        simp only
        go_wp2_with (first | with_reducible refine halt_alloc 59 ?_ | with_reducible refine halt_store 59 ?_)
        refine L.alloc rfl zero59 (by rfl) ?_
        intro w8 hA8 hG8
        simp only [Act.put, List.setIfInBounds_toArray, List.set_cons_zero, List.set_cons_succ]
        go_wp2_with (first | with_reducible refine halt_alloc 59 ?_ | with_reducible refine halt_store 59 ?_)
        refine L.store rfl info59 (by rfl) (by rfl) hA8 (by rw [List.length_map]; exact hz64.out) hz64.out (by rfl) ?_
        intro w9 hA9 hG9
        simp only [Act.put]
        have hb8 := GB.trans _ _ _ hb5 hG8
        have hx : GB wr w9 := Below.grown hb8 hG9 hb8.size (fun j hj => by rw [← Option.some.inj hj]; exact hb5.size)
        clear hb5 hb8 hG8 hG9 hA8 hA9 k1
        go_wp2_with fail
        refine (num_any 1 _).mono ?_
        rintro e y ⟨rfl, rfl⟩
        go_wp2_with fail
        refine (k2.out _ hx).mono ?_
        rintro e w10 ⟨rfl, hb10⟩
        replace hx := GB.trans _ _ _ hx hb10
        clear hb10
        go_wp2_with fail
        refine (num_any 1 _).mono ?_
        rintro e x2 ⟨rfl, rfl⟩
        go_wp2_with fail
        refine (k3.out _ hx).mono ?_
        rintro e y ⟨rfl, rfl⟩
        go_wp2_with fail
        refine (num_any 1 _).mono ?_
        rintro e x3 ⟨rfl, rfl⟩
        go_wp2_with fail
        refine (k4.out _ hx).mono ?_
        rintro e y ⟨rfl, rfl⟩
        go_wp2_with fail
        refine (num_any 1 _).mono ?_
        rintro e x3 ⟨rfl, rfl⟩
        go_wp2_with fail
        refine (k5.out _ hx).mono ?_
        rintro e y ⟨rfl, rfl⟩
        go_wp2_with fail
        refine (num_any 1 _).mono ?_
        rintro e x3 ⟨rfl, rfl⟩
        go_wp2_with fail
        refine (k6.out _ hx).mono ?_
        rintro e y ⟨rfl, rfl⟩
        go_wp2_with fail
        refine (num_any 1 _).mono ?_
        rintro e x3 ⟨rfl, rfl⟩
        go_wp2_with fail
        refine (k7.out _ hx).mono ?_
        rintro e y ⟨rfl, rfl⟩
        go_wp2_with fail
        refine (k8.out _ hx).mono ?_
        rintro e y ⟨rfl, rfl⟩
        go_wp2_with fail
        refine (k9.out _ hx).mono ?_
        rintro e y ⟨rfl, rfl⟩
        go_wp2_with fail
        refine (k10.out _ hx).mono ?_
        rintro e y ⟨rfl, rfl⟩
        go_wp2_with fail
        refine (k11.out _ hx).mono ?_
        rintro e y ⟨rfl, rfl⟩
        go_wp2_with fail
        refine (k12.out _ hx).mono ?_
        rintro e y ⟨rfl, rfl⟩
        go_wp2_with fail
        refine (k13.out _ hx).mono ?_
        rintro e y ⟨rfl, rfl⟩
        go_wp2_with fail
        go_roundw
        case rel => exact ⟨2, rfl, by omega, GB.trans _ _ _ hgr hx⟩
        case measure => simp [intOf]
end Go.Proofs.Ytiihllfjlgbfcaa
