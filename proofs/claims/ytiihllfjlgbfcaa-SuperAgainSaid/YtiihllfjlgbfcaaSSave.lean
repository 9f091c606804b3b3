/- The walks of super's wipe, Save and Load, and of the law's known. -/
import Derived.Test.YtiihllfjlgbfcaaSIo
namespace Go.Proofs.Ytiihllfjlgbfcaa
open Go.RowKit
theorem some5_any (t : UInt64) (w : World) : Calls Try.prog 57 #[.int .u64 (n64 t)] w fun e w' => e = .returned (suV (someS t)) ∧ GB w w' := by
  go_enter Try.func57, Try.ntmps57
  go_wp2_with (first | with_reducible refine halt_alloc 82 ?_)
  refine L.alloc82 rfl (by rfl) ?_
  intro w1 hS1 hG1
  simp only [Act.put, List.setIfInBounds_toArray, List.set_cons_zero, List.set_cons_succ]
  go_wp2_with (first | with_reducible refine halt_build 82 ?_)
  refine L.val (by rfl) (X.build82v rfl (by rfl) (by rfl) (by rfl)) ?_
  simp only [Act.put, List.setIfInBounds_toArray, List.set_cons_zero, List.set_cons_succ]
  go_wp2_with (first | with_reducible refine halt_store 82 ?_)
  refine L.store82 (s := someS t) rfl (by rfl) (by rfl) hS1 (by rw [suC_len _ (by rfl)]) rfl (by rfl) ?_
  intro w2 hS2 hG2
  simp only [Act.put]
  go_wp2_with fail
  refine ret_su1 rfl (by rfl) hS2 rfl rfl ?_
  exact ⟨rfl, Below.grown hG1 hG2 hG1.size (fun k hk => by cases hk; exact Nat.le_refl _)⟩
theorem someS_ok (t : UInt64) : (someS t).Ok := ⟨rfl, (by show _ ≤ (16 : Int) ∧ (16 : Int) ≤ _; omega), (by show _ ≤ (8 : Int) ∧ (8 : Int) ≤ _; omega), (by show _ ≤ (0 : Int) ∧ (0 : Int) ≤ _; omega)⟩
theorem ofS_pg (B : List UInt8) : (ofS B).1.pg.length = 6 := by
  unfold ofS
  split
  · exact (parse_ok B).pg
  · rfl
theorem ofS_code (B : List UInt8) : (ofS B).2 = 0 ∨ (ofS B).2 = 4 := by
  unfold ofS
  split <;> simp
theorem cut_arr_to {T : TypeId} {n : Nat} (hu : Try.prog.underlying T = some (.array n 5)) (w : World) (g o m : Nat) (x : Int) (k : IntKind) (hx : x = m) (hm : m ≤ n) :
    (Instr.sliceAt T (.pointer (some ⟨g, o, none⟩)) none (some (.int k x)) none).run Try.prog w = .ok (.slice (some ⟨g, o, none⟩) m n) w := by
  subst hx
  have hA : Try.prog.arrayLen T = n := by simp [Program.arrayLen, hu]
  have hE : Try.prog.elem T = 5 := by simp [Program.elem, hu]
  obtain ⟨i, hi, h1⟩ := info5_size
  rw [run_sliceAt_array_h (P := Try.prog) w T ⟨g, o, none⟩ (by rw [hA, hE]; exact hu) k m (by omega) (by rw [hA]; omega), hE, hA]
  simp [sizeOf, typeInfo, hi, h1, slicedAt, Addr.add_zero]
theorem readB_in {d : DD} (k : Nat) (hk : k < d.img.length / 4) : d.readB (k : Int) = (d.blk k, 0) := by
  unfold DD.readB; rw [hasB_in d k hk, if_pos rfl, Int.toNat_natCast]
theorem readB_out {d : DD} (k : Nat) (hk : ¬ k < d.img.length / 4) : d.readB (k : Int) = (zeros 256, 2) ∧ d.hasB (k : Int) = 2 := by
  have : d.hasB (k : Int) = 2 := by unfold DD.hasB; rw [if_pos (by omega)]
  unfold DD.readB; rw [this]; exact ⟨rfl, rfl⟩
set_option maxHeartbeats 1000000 in
set_option maxRecDepth 100000 in
theorem wipe5_any (p : Nat) (d : DD) (F : Nat → Prop) (k : Nat) (w : World) (h : DiskAt w p d F) (hg : DGood d) (hj : d.jr.length ≤ 1000000) (hk : k < 2) :
    Calls Try.prog 116 #[.pointer (some ⟨p, 0, none⟩), .int .i64 k] w fun e w' => e = .returned (.int .i64 (d.wipe k).1) ∧ Moved p (d.wipe k).2 F w w' := by
  have HZ := Lib.hid (zeros_length 256)
  have HZ64 := Lib.hid (zeros_length 64)
  have hrd := read5_any p d F k w h hg
  by_cases hin : k < d.img.length / 4
  · rw [readB_in k hin] at hrd
    have hbl := blk_length hg k hin
    have HW : Hid (d.wipe k = if (ofS (d.blk k)).2 = 0 ∨ sect (d.blk k) 0 = zeros 64 then (0, d) else if (d.write ((4 * k : Nat) : Int) (zeros 64)).1 = 0 then (d.write ((4 * k : Nat) : Int) (zeros 64)).2.flush else d.write ((4 * k : Nat) : Int) (zeros 64)) := Lib.hid (by unfold DD.wipe; rw [hasB_in d k hin, if_pos rfl])
    have HWR : Hid (∀ u, GB w u → Calls Try.prog 43 #[.pointer (some ⟨p, 0, none⟩), .int .i64 ((k : Int) * 4), arr (zeros 64)] u fun e w' => e = .returned (.int .i64 (d.write ((4 * k : Nat) : Int) (zeros 64)).1) ∧ Moved p (d.write ((4 * k : Nat) : Int) (zeros 64)).2 F u w') := Lib.hid (fun u g => by
      have e : ((4 * k : Nat) : Int) = (k : Int) * 4 := by push_cast; omega
      rw [e]
      exact write_any p d F ((k : Int) * 4) (zeros 64) u (h.gb g) hg HZ64.out (by omega))
    have HG : Hid (DGood (d.write ((4 * k : Nat) : Int) (zeros 64)).2) := Lib.hid (write_good' hg (4 * k) (by omega) (zeros 64) HZ64.out).1
    generalize d.write ((4 * k : Nat) : Int) (zeros 64) = WR at *
    generalize d.wipe k = R at *
    generalize d.blk k = B at *
    have HL := Lib.hid hbl
    have HOF := Lib.hid (fun u => of5_any B u hbl)
    have hpg := ofS_pg B
    have hcode := ofS_code B
    have hsx : ((B.map b8).drop 0).take 64 = (sect B 0).map b8 := by unfold sect; rw [List.map_take, List.map_drop]
    have HSX := Lib.hid (sect_length B 0 hbl (by omega))
    generalize ofS B = r at *
    obtain ⟨s, c⟩ := r
    generalize sect B 0 = Sx at *
    simp only at hpg hcode
    clear hbl
    go_enter Try.func116, Try.ntmps116
    go_wp2_with fail
    refine hrd.mono ?_
    rintro e w1 ⟨rfl, hb1⟩
    go_wp2_with (first | with_reducible refine halt_alloc 37 ?_ | with_reducible refine halt_store 37 ?_ | with_reducible refine halt_load 37 ?_ | with_reducible refine halt_alloc 82 ?_ | with_reducible refine halt_store 82 ?_)
    refine L.alloc rfl zero37 (by rfl) ?_
    intro w2 hA2 hG2
    simp only [Act.put, List.setIfInBounds_toArray, List.set_cons_zero, List.set_cons_succ]
    go_wp2_with (first | with_reducible refine halt_alloc 37 ?_ | with_reducible refine halt_store 37 ?_ | with_reducible refine halt_load 37 ?_ | with_reducible refine halt_alloc 82 ?_ | with_reducible refine halt_store 82 ?_)
    refine L.store rfl info37 (by rfl) (by rfl) hA2 (by rw [List.length_map]; exact HZ.out) HL.out (by rfl) ?_
    intro w3 hA3 hG3
    simp only [Act.put]
    have hg3 : GB w w3 := Below.trans hb1 ((Below.grown hG2 hG3 hG2.size (fun k hk => by cases hk; exact Nat.le_refl _)).mono hb1.size)
    clear hrd hb1 hA2 hG2 hG3
    generalize w1.heap.size = gA at *
    go_wp2_with (first | with_reducible refine halt_alloc 37 ?_ | with_reducible refine halt_store 37 ?_ | with_reducible refine halt_load 37 ?_ | with_reducible refine halt_alloc 82 ?_ | with_reducible refine halt_store 82 ?_)
    refine L.load rfl Try.underlying37 info37 (by rfl) hA3 HL.out (by rfl) ?_
    simp only [Act.put, List.setIfInBounds_toArray, List.set_cons_zero, List.set_cons_succ]
    go_wp2_with (first | with_reducible refine halt_alloc 37 ?_ | with_reducible refine halt_store 37 ?_ | with_reducible refine halt_load 37 ?_ | with_reducible refine halt_alloc 82 ?_ | with_reducible refine halt_store 82 ?_)
    refine (HOF.out _).mono ?_
    rintro e w4 ⟨rfl, hb4⟩
    have hA4 := hA3.gb hb4
    have hg4 := GB.trans _ _ _ hg3 hb4
    clear hb4 hA3 hg3
    go_wp2_with (first | with_reducible refine halt_alloc 37 ?_ | with_reducible refine halt_store 37 ?_ | with_reducible refine halt_load 37 ?_ | with_reducible refine halt_alloc 82 ?_ | with_reducible refine halt_store 82 ?_)
    refine L.alloc82 rfl (by rfl) ?_
    intro w5 hS5 hG5
    simp only [Act.put, List.setIfInBounds_toArray, List.set_cons_zero, List.set_cons_succ]
    go_wp2_with (first | with_reducible refine halt_alloc 37 ?_ | with_reducible refine halt_store 37 ?_ | with_reducible refine halt_load 37 ?_ | with_reducible refine halt_alloc 82 ?_ | with_reducible refine halt_store 82 ?_)
    refine L.store82 (s := s) rfl (by rfl) (by rfl) hS5 (by rw [suC_len _ (by rfl)]) hpg (by rfl) ?_
    intro w6 hS6 hG6
    simp only [Act.put]
    have hg6' : GB w4 w6 := Below.grown hG5 hG6 hG5.size (fun k hk => by cases hk; exact Nat.le_refl _)
    have hA6 := hA4.gb hg6'
    have hg6 := GB.trans _ _ _ hg4 hg6'
    clear hS5 hG5 hG6 hS6 hA4 hg4 hg6'
    have hcut := cut_arr_to Try.underlying37 w6 gA 0 64 64 .i64 rfl (by omega)
    have hap := run_arrayAt (P := Try.prog) w6 59 5 64 (some ⟨gA, 0, none⟩) 64 256 Try.underlying59 (Nat.le_refl _)
    have hk4 : IntKind.i64.wrap ((k : Int) * 4) = (k : Int) * 4 := wrapi _ (by omega) (by omega)
    by_cases hc : c = 0
    · subst hc
      have HR : Hid (R = (0, d)) := Lib.hid (by rw [HW.out, if_pos (.inl rfl)])
      go_wp2_with fail
      go_ret
      exact ⟨by rw [HR.out]; rfl, by rw [HR.out]; exact Moved.late hg6 (Moved.refl (h.gb hg6))⟩
    · obtain rfl : c = 4 := by omega
      clear hcode
      go_wp2_with (first | with_reducible refine halt_load 59 ?_ | with_reducible refine halt_build 59 ?_ | with_reducible refine halt_bin 59 ?_)
      refine L.val (by rfl) (X.loadAt (l := Sx) (off := 0) rfl (by rfl) Try.underlying59 info59 hA6 hsx (by rw [List.length_map, HL.out]; decide)) ?_
      simp only [Act.put, List.setIfInBounds_toArray, List.set_cons_zero, List.set_cons_succ]
      go_wp2_with (first | with_reducible refine halt_load 59 ?_ | with_reducible refine halt_build 59 ?_ | with_reducible refine halt_bin 59 ?_)
      refine L.val (by rfl) (X.build59 rfl) ?_
      simp only [Act.put, List.setIfInBounds_toArray, List.set_cons_zero, List.set_cons_succ]
      go_wp2_with (first | with_reducible refine halt_load 59 ?_ | with_reducible refine halt_build 59 ?_ | with_reducible refine halt_bin 59 ?_)
      by_cases he : Sx = zeros 64
      · have hq : (Sx == zeros 64) = true := by simp [he]
        have HR : Hid (R = (0, d)) := Lib.hid (by rw [HW.out, if_pos (.inr he)])
        refine L.eql rfl Try.underlying59 guard59 (by rfl) (by rfl) HSX.out HZ64.out (by rfl) ?_
        simp only [Act.put, List.setIfInBounds_toArray, List.set_cons_zero, List.set_cons_succ]
        rw [hq]
        clear hq he
        go_wp2_with fail
        go_ret
        exact ⟨by rw [HR.out]; rfl, by rw [HR.out]; exact Moved.late hg6 (Moved.refl (h.gb hg6))⟩
      · have hq : (Sx == zeros 64) = false := by simp [he]
        have HR : Hid (R = if WR.1 = 0 then WR.2.flush else WR) := Lib.hid (by rw [HW.out, if_neg (by rintro (h | h); exact absurd h hc; exact he h)])
        refine L.eql rfl Try.underlying59 guard59 (by rfl) (by rfl) HSX.out HZ64.out (by rfl) ?_
        simp only [Act.put, List.setIfInBounds_toArray, List.set_cons_zero, List.set_cons_succ]
        rw [hq]
        clear hq he hc
        obtain ⟨cw, dw⟩ := WR
        simp only at HR HG
        go_wp2_with (first | with_reducible refine halt_build 59 ?_)
        refine L.val (by rfl) (X.build59 rfl) ?_
        simp only [Act.put, List.setIfInBounds_toArray, List.set_cons_zero, List.set_cons_succ]
        go_wp2_with fail
        refine (HWR.out _ hg6).mono ?_
        rintro e w7 ⟨rfl, hm⟩
        simp only at hm ⊢
        by_cases hcw : cw = 0
        · subst hcw
          have HR2 : Hid (R = dw.flush) := Lib.hid (by rw [HR.out, if_pos rfl])
          obtain ⟨F2, hd2, hf2, hs2⟩ := hm
          have hfl := flush_any p dw F2 w7 hd2 HG.out
          rw [← HR2.out] at hfl
          clear HR
          go_wp2_with fail
          refine hfl.mono ?_
          rintro e w8 ⟨rfl, hm8⟩
          go_wp2_with fail
          go_ret
          exact ⟨rfl, Moved.late hg6 (Moved.chain hf2 hs2 hm8)⟩
        · have hcb : (cw != 0) = true := by rw [bne_iff_ne]; exact hcw
          have HR2 : Hid (R = (cw, dw)) := Lib.hid (by rw [HR.out, if_neg hcw])
          clear HR hcw
          go_wp2_with fail
          go_ret
          exact ⟨by rw [HR2.out]; rfl, by rw [HR2.out]; exact Moved.late hg6 hm⟩
  · obtain ⟨hr1, hr2⟩ := readB_out (d := d) k hin
    rw [hr1] at hrd
    have HR : Hid (d.wipe k = (2, d)) := Lib.hid (by unfold DD.wipe; rw [hr2, if_neg (by decide)])
    go_enter Try.func116, Try.ntmps116
    go_wp2_with fail
    refine hrd.mono ?_
    rintro e w1 ⟨rfl, hb1⟩
    go_wp2_with (first | with_reducible refine halt_alloc 37 ?_ | with_reducible refine halt_store 37 ?_ | with_reducible refine halt_load 37 ?_ | with_reducible refine halt_alloc 82 ?_ | with_reducible refine halt_store 82 ?_)
    refine L.alloc rfl zero37 (by rfl) ?_
    intro w2 hA2 hG2
    simp only [Act.put, List.setIfInBounds_toArray, List.set_cons_zero, List.set_cons_succ]
    go_wp2_with (first | with_reducible refine halt_alloc 37 ?_ | with_reducible refine halt_store 37 ?_ | with_reducible refine halt_load 37 ?_ | with_reducible refine halt_alloc 82 ?_ | with_reducible refine halt_store 82 ?_)
    refine L.store rfl info37 (by rfl) (by rfl) hA2 (by rw [List.length_map]; exact HZ.out) HZ.out (by rfl) ?_
    intro w3 hA3 hG3
    simp only [Act.put]
    have hg3 : GB w w3 := Below.trans hb1 ((Below.grown hG2 hG3 hG2.size (fun k hk => by cases hk; exact Nat.le_refl _)).mono hb1.size)
    go_wp2_with fail
    go_ret
    exact ⟨by rw [HR.out]; rfl, by rw [HR.out]; exact Moved.late hg3 (Moved.refl (h.gb hg3))⟩
theorem tx_rem (x : UInt64) : (n64 x).tmod 2 = ((x.toNat % 2 : Nat) : Int) := by
  unfold n64
  rw [Int.tmod_eq_emod_of_nonneg (by omega)]
  omega
set_option maxHeartbeats 1000000 in
set_option maxRecDepth 100000 in
theorem save5_any (p : Nat) (d : DD) (F : Nat → Prop) (s : Su) (w : World) (h : DiskAt w p d F) (hg : DGood d) (hj : d.jr.length ≤ 100000) (hs : s.Ok) :
    Calls Try.prog 58 #[.pointer (some ⟨p, 0, none⟩), suV s] w fun e w' => e = .returned (.int .i64 (d.save s).1) ∧ Moved p (d.save s).2 F w w' := by
  have HZ := Lib.hid (zeros_length 256)
  have hz : ((d.img.length : Int) == 0) = false := by rw [beq_eq_false_iff_ne]; have := hg.some; omega
  have hFl := h.lt
  have HB := Lib.hid (fun u => block5_any s hs u)
  have HSE := Lib.hid (fun u (g : GB w u) => sectors_any p d F u (h.gb g))
  obtain ⟨m, hm⟩ : ∃ m, s.tx.toNat % 2 = m := ⟨_, rfl⟩
  have hm2 : m < 2 := by omega
  have hrem := tx_rem s.tx
  rw [hm] at hrem
  have HSV : Hid (d.save s = if mayS s then d.saveAt m (blockS s) else (2, d)) := Lib.hid (by rw [← hm]; rfl)
  have HWP := Lib.hid (fun u (g : GB w u) => wipe5_any p d F m u (h.gb g) hg (by omega) hm2)
  have HWG := Lib.hid (wipe_good hg m)
  have HSA : Hid (d.saveAt m (blockS s) = if (d.wipe m).1 = 0 then (if ((d.wipe m).2.writeB m (blockS s)).1 = 0 then ((d.wipe m).2.writeB m (blockS s)).2.flush else (d.wipe m).2.writeB m (blockS s)) else d.wipe m) := Lib.hid rfl
  have HBL := Lib.hid (blockS_length s)
  have hpg := hs.pg
  generalize d.wipe m = W1 at *
  generalize d.saveAt m (blockS s) = R1 at *
  generalize d.save s = R at *
  obtain ⟨c1, d1⟩ := W1
  simp only at HWP HWG HSA
  go_enter Try.func58, Try.ntmps58
  go_wp2_with (first | with_reducible refine halt_box 82 ?_)
  refine L.box82 rfl (by rfl) (by rfl) ?_
  intro w1 hS1 hG1
  simp only [Act.put, List.setIfInBounds_toArray, List.set_cons_zero, List.set_cons_succ]
  go_wp2_with (first | with_reducible refine halt_load 82 ?_)
  refine L.load82 rfl (by rfl) hS1 hpg (by rfl) ?_
  simp only [Act.put, List.setIfInBounds_toArray, List.set_cons_zero, List.set_cons_succ]
  cases hmay : mayS s
  · rw [hmay] at HB HSV
    have HB2 : Hid (∀ u, Calls Try.prog 61 #[suV s] u (GivesArr (zeros 256) 2 u)) := Lib.hid (fun u => HB.out u)
    have HR : Hid (R = (2, d)) := Lib.hid (by rw [HSV.out]; rfl)
    clear hmay HB HSV
    go_wp2_with fail
    refine (HB2.out _).mono ?_
    rintro e w2 ⟨rfl, hb2⟩
    go_wp2_with (first | with_reducible refine halt_alloc 37 ?_ | with_reducible refine halt_store 37 ?_ | with_reducible refine halt_load 37 ?_ | with_reducible refine halt_alloc 82 ?_ | with_reducible refine halt_store 82 ?_)
    refine L.alloc rfl zero37 (by rfl) ?_
    intro w3 hA3 hG3
    simp only [Act.put, List.setIfInBounds_toArray, List.set_cons_zero, List.set_cons_succ]
    go_wp2_with (first | with_reducible refine halt_alloc 37 ?_ | with_reducible refine halt_store 37 ?_ | with_reducible refine halt_load 37 ?_ | with_reducible refine halt_alloc 82 ?_ | with_reducible refine halt_store 82 ?_)
    refine L.store rfl info37 (by rfl) (by rfl) hA3 (by rw [List.length_map]; exact HZ.out) HZ.out (by rfl) ?_
    intro w4 hA4 hG4
    simp only [Act.put]
    have hg2 := GB.trans _ _ _ hG1 hb2
    have hg4 : GB w w4 := Below.trans hg2 ((Below.grown hG3 hG4 hG3.size (fun k hk => by cases hk; exact Nat.le_refl _)).mono hg2.size)
    go_wp2_with fail
    refine (HSE.out _ hg4).mono ?_
    rintro e w5 ⟨rfl, rfl⟩
    go_wp2_with fail
    go_ret
    exact ⟨by rw [HR.out]; rfl, by rw [HR.out]; exact Moved.late hg4 (Moved.refl (h.gb hg4))⟩
  · rw [hmay] at HB HSV
    have HB2 : Hid (∀ u, Calls Try.prog 61 #[suV s] u (GivesArr (blockS s) 0 u)) := Lib.hid (fun u => HB.out u)
    have HR1 : Hid (R = R1) := Lib.hid (by rw [HSV.out]; rfl)
    clear hmay HB HSV
    generalize blockS s = C at *
    go_wp2_with fail
    refine (HB2.out _).mono ?_
    rintro e w2 ⟨rfl, hb2⟩
    go_wp2_with (first | with_reducible refine halt_alloc 37 ?_ | with_reducible refine halt_store 37 ?_ | with_reducible refine halt_load 37 ?_ | with_reducible refine halt_alloc 82 ?_ | with_reducible refine halt_store 82 ?_)
    refine L.alloc rfl zero37 (by rfl) ?_
    intro w3 hA3 hG3
    simp only [Act.put, List.setIfInBounds_toArray, List.set_cons_zero, List.set_cons_succ]
    go_wp2_with (first | with_reducible refine halt_alloc 37 ?_ | with_reducible refine halt_store 37 ?_ | with_reducible refine halt_load 37 ?_ | with_reducible refine halt_alloc 82 ?_ | with_reducible refine halt_store 82 ?_)
    refine L.store rfl info37 (by rfl) (by rfl) hA3 (by rw [List.length_map]; exact HZ.out) HBL.out (by rfl) ?_
    intro w4 hA4 hG4
    simp only [Act.put]
    have hg2 := GB.trans _ _ _ hG1 hb2
    have hg4' : GB w2 w4 := Below.grown hG3 hG4 hG3.size (fun k hk => by cases hk; exact Nat.le_refl _)
    have hg4 : GB w w4 := Below.trans hg2 (hg4'.mono hg2.size)
    have hS4 := (hS1.gb hb2).gb hg4'
    obtain ⟨c0, -, -, -, -, -, -⟩ := su_cells hS4 hpg
    have hgA : w.heap.size ≤ w2.heap.size := hg2.size
    clear hS1 hG1 hb2 hA3 hG3 hG4 hg2 hg4' hS4
    generalize w2.heap.size = gA at *
    go_wp2_with fail
    refine (HSE.out _ hg4).mono ?_
    rintro e w5 ⟨rfl, rfl⟩
    have hwm : IntKind.i64.wrap (m : Int) = m := wrapi _ (by omega) (by omega)
    go_wp2_with fail
    refine (HWP.out _ hg4).mono ?_
    rintro e w6 ⟨rfl, F1, hd1, hf1, hs1⟩
    have hA6 := hf1.blk hA4 (fun hf => by have := hFl _ hf; omega)
    by_cases hc1 : c1 = 0
    · subst hc1
      obtain ⟨g1, g2, g3⟩ := HWG.out
      have HR2 : Hid (R = if (d1.writeB m C).1 = 0 then (d1.writeB m C).2.flush else d1.writeB m C) := Lib.hid (by rw [HR1.out, HSA.out, if_pos rfl])
      have hwr := write5_any p d1 F1 m C w6 hd1 g1 HBL.out (by omega)
      have HG2 := Lib.hid (writeB_good g1 m C HBL.out)
      generalize d1.writeB m C = W2 at *
      obtain ⟨c2, d2⟩ := W2
      simp only at hwr HR2 HG2
      clear HR1 HSA
      go_wp2_with (first | with_reducible refine halt_load 37 ?_)
      refine L.load rfl Try.underlying37 info37 (by rfl) hA6 HBL.out (by rfl) ?_
      simp only [Act.put, List.setIfInBounds_toArray, List.set_cons_zero, List.set_cons_succ]
      go_wp2_with fail
      refine hwr.mono ?_
      rintro e w7 ⟨rfl, F2, hd2, hf2, hs2⟩
      by_cases hc2 : c2 = 0
      · subst hc2
        have hfl := flush_any p d2 F2 w7 hd2 HG2.out.1
        have HR3 : Hid (R = d2.flush) := Lib.hid (by rw [HR2.out, if_pos rfl])
        rw [← HR3.out] at hfl
        clear HR2
        go_wp2_with fail
        refine hfl.mono ?_
        rintro e w8 ⟨rfl, hm8⟩
        go_wp2_with fail
        go_ret
        exact ⟨rfl, Moved.late hg4 (Moved.chain hf1 hs1 (Moved.chain hf2 hs2 hm8))⟩
      · have hcb : (c2 != 0) = true := by rw [bne_iff_ne]; exact hc2
        have HR3 : Hid (R = (c2, d2)) := Lib.hid (by rw [HR2.out, if_neg hc2])
        clear HR2 hc2
        go_wp2_with fail
        go_ret
        exact ⟨by rw [HR3.out]; rfl, by rw [HR3.out]; exact Moved.late hg4 (Moved.chain hf1 hs1 ⟨F2, hd2, hf2, hs2⟩)⟩
    · have hcb : (c1 != 0) = true := by rw [bne_iff_ne]; exact hc1
      have HR2 : Hid (R = (c1, d1)) := Lib.hid (by rw [HR1.out, HSA.out, if_neg hc1])
      clear HR1 HSA hc1
      go_wp2_with fail
      go_ret
      exact ⟨by rw [HR2.out]; rfl, by rw [HR2.out]; exact Moved.late hg4 ⟨F1, hd1, hf1, hs1⟩⟩
def bestUp (d : DD) : Nat → Su
  | 0 => zeroS
  | i + 1 => d.cand i (bestUp d i)
theorem bestUp_pg (d : DD) : ∀ i, (bestUp d i).pg.length = 6
  | 0 => rfl
  | i + 1 => by
    show (d.cand i (bestUp d i)).pg.length = 6
    unfold DD.cand
    split
    · exact ofS_pg _
    · exact bestUp_pg d i
set_option maxHeartbeats 1000000 in
set_option maxRecDepth 100000 in
theorem load5_any (p : Nat) (d : DD) (F : Nat → Prop) (w : World) (h : DiskAt w p d F) (hg : DGood d) : Calls Try.prog 59 #[.pointer (some ⟨p, 0, none⟩)] w (GivesSu d.load w) := by
  have HZ := Lib.hid (zeros_length 256)
  have HLD : Hid (d.load = if d.img.length < 8 then (zeroS, 2) else if (bestUp d 2).tx = 0 then (zeroS, 6) else (bestUp d 2, 0)) := Lib.hid rfl
  have HRD := Lib.hid (fun (i : Nat) u (g : GB w u) => read5_any p d F i u (h.gb g) hg)
  have HIN : Hid (∀ i : Nat, i < d.img.length / 4 → d.readB (i : Int) = (d.blk i, 0)) := Lib.hid (fun i hi => readB_in i hi)
  have HOUT : Hid (∀ i : Nat, ¬ i < d.img.length / 4 → d.readB (i : Int) = (zeros 256, 2)) := Lib.hid (fun i hi => (readB_out i hi).1)
  have HBP := Lib.hid (bestUp_pg d)
  have HBU : Hid (∀ i, bestUp d (i + 1) = if (ofS (d.blk i)).2 = 0 ∧ (ofS (d.blk i)).1.tx.toNat % 2 = i ∧ (bestUp d i).tx < (ofS (d.blk i)).1.tx then (ofS (d.blk i)).1 else bestUp d i) := Lib.hid (fun i => rfl)
  have hB0 : bestUp d 0 = zeroS := rfl
  have HBL : Hid (∀ i, i < d.img.length / 4 → (d.blk i).length = 256) := Lib.hid (fun i hi => blk_length hg i hi)
  generalize bestUp d = U at *
  generalize d.load = R at *
  go_enter Try.func59, Try.ntmps59
  go_wp2_with (first | with_reducible refine halt_alloc 82 ?_)
  refine L.alloc82 rfl (by rfl) ?_
  intro w1 hR1 hG1
  simp only [Act.put, List.setIfInBounds_toArray, List.set_cons_zero, List.set_cons_succ]
  go_wp2_with (first | with_reducible refine halt_alloc 82 ?_)
  refine L.alloc82 rfl (by rfl) ?_
  intro w2 hS2 hG2
  simp only [Act.put, List.setIfInBounds_toArray, List.set_cons_zero, List.set_cons_succ]
  have hR2 := hR1.gb hG2
  have hg2 := GB.trans _ _ _ hG1 hG2
  have hlt1 := hR1.lt
  have hlt2 := hS2.lt
  have hne : w.heap.size ≠ w1.heap.size := by omega
  have hle : w.heap.size ≤ w1.heap.size := hG1.size
  clear hR1 hG1 hG2
  generalize w1.heap.size = gS at *
  go_wp2_with fail
  go_loopw [9] (fun x wr => ∃ i : Nat, i ≤ 2 ∧ x = .int .i64 i ∧ Hid (i ≤ d.img.length / 4) ∧ Blk wr gS 82 (suC (U i)) ∧ Blk wr w.heap.size 82 (suC zeroS) ∧ GB w wr) (fun x _ => 2 - (intOf x).toNat)
  case atStart => exact ⟨0, by omega, rfl, Lib.hid (Nat.zero_le _), by rw [hB0]; exact hS2, hR2, hg2⟩
  case round =>
    obtain ⟨i, hi, rfl, HI, hS, hR, hb⟩ := hrel
    by_cases hlt : i < 2
    · have hrd := HRD.out i wr hb
      by_cases hin : i < d.img.length / 4
      · rw [HIN.out i hin] at hrd
        have hbl := HBL.out i hin
        have hbu := HBU.out i
        have hpg0 := HBP.out i
        have hpg1 := HBP.out (i + 1)
        have hpgo := ofS_pg (d.blk i)
        have hcode := ofS_code (d.blk i)
        have HOF := Lib.hid (fun u => of5_any (d.blk i) u hbl)
        generalize d.blk i = B at *
        generalize ofS B = r at *
        obtain ⟨s, c⟩ := r
        generalize hU1 : U (i + 1) = b1 at *
        generalize U i = b0 at *
        simp only at hbu hpgo hcode
        have HL := Lib.hid hbl
        have HB1 := Lib.hid hbu
        have HU1 := Lib.hid hU1
        have HIN1 : Hid (i + 1 ≤ d.img.length / 4) := Lib.hid hin
        clear hbl hbu hin hU1
        go_wp2_with fail
        refine hrd.mono ?_
        rintro e w3 ⟨rfl, hb3⟩
        go_wp2_with (first | with_reducible refine halt_alloc 37 ?_ | with_reducible refine halt_store 37 ?_ | with_reducible refine halt_load 37 ?_ | with_reducible refine halt_alloc 82 ?_ | with_reducible refine halt_store 82 ?_)
        refine L.alloc rfl zero37 (by rfl) ?_
        intro w4 hA4 hG4
        simp only [Act.put, List.setIfInBounds_toArray, List.set_cons_zero, List.set_cons_succ]
        go_wp2_with (first | with_reducible refine halt_alloc 37 ?_ | with_reducible refine halt_store 37 ?_ | with_reducible refine halt_load 37 ?_ | with_reducible refine halt_alloc 82 ?_ | with_reducible refine halt_store 82 ?_)
        refine L.store rfl info37 (by rfl) (by rfl) hA4 (by rw [List.length_map]; exact HZ.out) HL.out (by rfl) ?_
        intro w5 hA5 hG5
        simp only [Act.put]
        have g35 : GB w3 w5 := Below.grown hG4 hG5 hG4.size (fun k hk => by cases hk; exact Nat.le_refl _)
        have g5 : GB wr w5 := GB.trans _ _ _ hb3 g35
        clear hb3 hA4 hG4 hG5 g35 hrd
        go_wp2_with (first | with_reducible refine halt_alloc 37 ?_ | with_reducible refine halt_store 37 ?_ | with_reducible refine halt_load 37 ?_ | with_reducible refine halt_alloc 82 ?_ | with_reducible refine halt_store 82 ?_)
        refine L.load rfl Try.underlying37 info37 (by rfl) hA5 HL.out (by rfl) ?_
        simp only [Act.put, List.setIfInBounds_toArray, List.set_cons_zero, List.set_cons_succ]
        go_wp2_with (first | with_reducible refine halt_alloc 37 ?_ | with_reducible refine halt_store 37 ?_ | with_reducible refine halt_load 37 ?_ | with_reducible refine halt_alloc 82 ?_ | with_reducible refine halt_store 82 ?_)
        refine (HOF.out _).mono ?_
        rintro e w6 ⟨rfl, hb6⟩
        replace g5 := GB.trans _ _ _ g5 hb6
        clear hb6 hA5
        go_wp2_with (first | with_reducible refine halt_alloc 37 ?_ | with_reducible refine halt_store 37 ?_ | with_reducible refine halt_load 37 ?_ | with_reducible refine halt_alloc 82 ?_ | with_reducible refine halt_store 82 ?_)
        refine L.alloc82 rfl (by rfl) ?_
        intro w7 hT7 hG7
        simp only [Act.put, List.setIfInBounds_toArray, List.set_cons_zero, List.set_cons_succ]
        go_wp2_with (first | with_reducible refine halt_alloc 37 ?_ | with_reducible refine halt_store 37 ?_ | with_reducible refine halt_load 37 ?_ | with_reducible refine halt_alloc 82 ?_ | with_reducible refine halt_store 82 ?_)
        refine L.store82 (s := s) rfl (by rfl) (by rfl) hT7 (by rw [suC_len _ (by rfl)]) hpgo (by rfl) ?_
        intro w8 hT8 hG8
        simp only [Act.put]
        have g68 : GB w6 w8 := Below.grown hG7 hG8 hG7.size (fun k hk => by cases hk; exact Nat.le_refl _)
        have g8 : GB wr w8 := GB.trans _ _ _ g5 g68
        have hltT : wr.heap.size ≤ w6.heap.size := g5.size
        have hS8 := hS.gb g8
        have hR8 := hR.gb g8
        have hb8 := GB.trans _ _ _ hb g8
        have hltS := hS.lt
        obtain ⟨t0, -, -, -, -, -, -⟩ := su_cells hT8 hpgo
        obtain ⟨b0c, -, -, -, -, -, -⟩ := su_cells hS8 hpg0
        have hrem := tx_rem s.tx
        obtain ⟨m, hm⟩ : ∃ m, s.tx.toNat % 2 = m := ⟨_, rfl⟩
        rw [hm] at hrem
        have hwm : IntKind.i64.wrap (m : Int) = m := wrapi _ (by omega) (by omega)
        have HM := Lib.hid hm
        clear g5 g68 hT7 hG7 hG8 hS hR hb g8 hm
        generalize w6.heap.size = gT at *
        by_cases hc : c = 0
        · subst hc
          by_cases hmi : m = i
          · subst hmi
            by_cases htx : b0.tx < s.tx
            · have hbq : b1 = s := by rw [HB1.out, if_pos ⟨rfl, HM.out, htx⟩]
              have hlt64 : n64 b0.tx < n64 s.tx := by unfold n64; have := UInt64.lt_iff_toNat_lt.1 htx; omega
              have HBQ := Lib.hid hbq
              clear htx hbq
              go_wp2_with (first | with_reducible refine halt_load 82 ?_ | with_reducible refine halt_store 82 ?_)
              refine L.load82 rfl (by rfl) hT8 hpgo (by rfl) ?_
              simp only [Act.put, List.setIfInBounds_toArray, List.set_cons_zero, List.set_cons_succ]
              go_wp2_with (first | with_reducible refine halt_load 82 ?_ | with_reducible refine halt_store 82 ?_)
              refine L.store82 (s := s) rfl (by rfl) (by rfl) hS8 (by rw [suC_len _ hpg0]) hpgo (by rfl) ?_
              intro w9 hS9 hG9
              simp only [Act.put]
              go_wp2_with fail
              go_roundw
              case rel => exact ⟨m + 1, by omega, by go_num, HIN1, by rw [HU1.out, HBQ.out]; exact hS9, hR8.grown hG9 (fun e => by injection e with e; exact hne e), hb8.grown hG9 hb8.size (fun k hk => by cases hk; exact hle)⟩
              case measure => simp [intOf]; omega
            · have hbq : b1 = b0 := by rw [HB1.out, if_neg (fun x => htx x.2.2)]
              have h1 : ¬ b0.tx.toNat < s.tx.toNat := fun h => htx (UInt64.lt_iff_toNat_lt.2 h)
              have hlt64 : ¬ n64 b0.tx < n64 s.tx := by unfold n64; omega
              clear h1
              have HBQ := Lib.hid hbq
              clear htx hbq
              go_wp2_with fail
              go_roundw
              case rel => exact ⟨m + 1, by omega, by go_num, HIN1, by rw [HU1.out, HBQ.out]; exact hS8, hR8, hb8⟩
              case measure => simp [intOf]; omega
          · have hbq : b1 = b0 := by rw [HB1.out, if_neg (fun x => hmi (HM.out.symm.trans x.2.1))]
            have HBQ := Lib.hid hbq
            have hmi' : ((m : Int) == (i : Int)) = false := by rw [beq_eq_false_iff_ne]; omega
            clear hbq hmi
            go_wp2_with fail
            go_roundw
            case rel => exact ⟨i + 1, by omega, by go_num, HIN1, by rw [HU1.out, HBQ.out]; exact hS8, hR8, hb8⟩
            case measure => simp [intOf]; omega
        · obtain rfl : c = 4 := by omega
          have hbq : b1 = b0 := by rw [HB1.out, if_neg (fun x => hc x.1)]
          have HBQ := Lib.hid hbq
          clear hc hcode hbq
          go_wp2_with fail
          go_roundw
          case rel => exact ⟨i + 1, by omega, by go_num, HIN1, by rw [HU1.out, HBQ.out]; exact hS8, hR8, hb8⟩
          case measure => simp [intOf]; omega
      · rw [HOUT.out i hin] at hrd
        have HR : Hid (R = (zeroS, 2)) := Lib.hid (by rw [HLD.out, if_pos (by omega)])
        clear hin
        go_wp2_with fail
        refine hrd.mono ?_
        rintro e w3 ⟨rfl, hb3⟩
        go_wp2_with (first | with_reducible refine halt_alloc 37 ?_ | with_reducible refine halt_store 37 ?_ | with_reducible refine halt_load 37 ?_ | with_reducible refine halt_alloc 82 ?_ | with_reducible refine halt_store 82 ?_)
        refine L.alloc rfl zero37 (by rfl) ?_
        intro w4 hA4 hG4
        simp only [Act.put, List.setIfInBounds_toArray, List.set_cons_zero, List.set_cons_succ]
        go_wp2_with (first | with_reducible refine halt_alloc 37 ?_ | with_reducible refine halt_store 37 ?_ | with_reducible refine halt_load 37 ?_ | with_reducible refine halt_alloc 82 ?_ | with_reducible refine halt_store 82 ?_)
        refine L.store rfl info37 (by rfl) (by rfl) hA4 (by rw [List.length_map]; exact HZ.out) HZ.out (by rfl) ?_
        intro w5 hA5 hG5
        simp only [Act.put]
        have g35 : GB w3 w5 := Below.grown hG4 hG5 hG4.size (fun k hk => by cases hk; exact Nat.le_refl _)
        have g5 : GB wr w5 := GB.trans _ _ _ hb3 g35
        have hR5 := hR.gb g5
        have hb5 := GB.trans _ _ _ hb g5
        clear hb3 hA4 hG4 hG5 g35 hrd g5
        go_wp2_with (first | with_reducible refine halt_build 82 ?_ | with_reducible refine halt_store 82 ?_)
        refine L.val (by rfl) (X.build82_0 rfl) ?_
        simp only [Act.put, List.setIfInBounds_toArray, List.set_cons_zero, List.set_cons_succ]
        go_wp2_with (first | with_reducible refine halt_build 82 ?_ | with_reducible refine halt_store 82 ?_)
        refine L.store82 (s := zeroS) rfl (by rfl) (by rfl) hR5 (by rw [suC_len _ (by rfl)]) rfl (by rfl) ?_
        intro w9 hS9 hG9
        simp only [Act.put]
        go_wp2_with fail
        refine ret_su2 rfl (by rfl) hS9 rfl (by rfl) rfl ?_
        exact ⟨by rw [HR.out]; rfl, hb5.grown hG9 hb5.size (fun k hk => by cases hk; exact Nat.le_refl _)⟩
    · obtain rfl : i = 2 := by omega
      have hpg2 := HBP.out 2
      have hge := HI.out
      have HR1 : Hid (R = if (U 2).tx = 0 then (zeroS, 6) else (U 2, 0)) := Lib.hid (by rw [HLD.out, if_neg (by omega)])
      generalize U 2 = b at *
      obtain ⟨b0c, -, -, -, -, -, -⟩ := su_cells hS hpg2
      clear hge HI HLD
      by_cases htx : b.tx = 0
      · have h0 : (n64 b.tx == 0) = true := by rw [htx]; rfl
        have HR : Hid (R = (zeroS, 6)) := Lib.hid (by rw [HR1.out, if_pos htx])
        clear htx HR1
        go_wp2_with (first | with_reducible refine halt_build 82 ?_ | with_reducible refine halt_store 82 ?_)
        refine L.val (by rfl) (X.build82_0 rfl) ?_
        simp only [Act.put, List.setIfInBounds_toArray, List.set_cons_zero, List.set_cons_succ]
        go_wp2_with (first | with_reducible refine halt_build 82 ?_ | with_reducible refine halt_store 82 ?_)
        refine L.store82 (s := zeroS) rfl (by rfl) (by rfl) hR (by rw [suC_len _ (by rfl)]) rfl (by rfl) ?_
        intro w9 hS9 hG9
        simp only [Act.put]
        go_wp2_with fail
        refine ret_su2 rfl (by rfl) hS9 rfl (by rfl) rfl ?_
        exact ⟨by rw [HR.out]; rfl, hb.grown hG9 hb.size (fun k hk => by cases hk; exact Nat.le_refl _)⟩
      · have h0 : (n64 b.tx == 0) = false := by rw [beq_eq_false_iff_ne]; intro h; exact htx (n64_inj (h.trans (by rfl)))
        have HR : Hid (R = (b, 0)) := Lib.hid (by rw [HR1.out, if_neg htx])
        clear htx HR1
        go_wp2_with (first | with_reducible refine halt_load 82 ?_ | with_reducible refine halt_store 82 ?_)
        refine L.load82 rfl (by rfl) hS hpg2 (by rfl) ?_
        simp only [Act.put, List.setIfInBounds_toArray, List.set_cons_zero, List.set_cons_succ]
        go_wp2_with (first | with_reducible refine halt_load 82 ?_ | with_reducible refine halt_store 82 ?_)
        refine L.store82 (s := b) rfl (by rfl) (by rfl) hR (by rw [suC_len _ (by rfl)]) hpg2 (by rfl) ?_
        intro w9 hS9 hG9
        simp only [Act.put]
        go_wp2_with fail
        refine ret_su2 rfl (by rfl) hS9 hpg2 (by rfl) rfl ?_
        exact ⟨by rw [HR.out]; rfl, hb.grown hG9 hb.size (fun k hk => by cases hk; exact Nat.le_refl _)⟩
set_option maxHeartbeats 1000000 in
set_option maxRecDepth 100000 in
theorem known5_any (w : World) : Calls Try.prog 56 #[] w fun e w' => e = .returned (.bool true) ∧ GB w w' := by
  obtain ⟨d1, d2, e1, G1, j1, n1, e2, G2, j2, n2, hl⟩ := known5
  have G0 := DD.new_good 40 (by decide) (by decide)
  have hs1 : ∀ u, Calls Try.prog 57 #[.int .u64 1] u fun e w' => e = .returned (suV (someS 1)) ∧ GB u w' := fun u => some5_any 1 u
  have hs2 : ∀ u, Calls Try.prog 57 #[.int .u64 2] u fun e w' => e = .returned (suV (someS 2)) ∧ GB u w' := fun u => some5_any 2 u
  have HS1 := Lib.hid hs1
  have HS2 := Lib.hid hs2
  have HV1 : Hid (∀ p F u, DiskAt u p (DD.new 40) F → Calls Try.prog 58 #[.pointer (some ⟨p, 0, none⟩), suV (someS 1)] u fun e w' => e = .returned (.int .i64 0) ∧ Moved p d1 F u w') := Lib.hid (fun p F u h => by
    have := save5_any p (DD.new 40) F (someS 1) u h G0 (by simp [DD.new]) (someS_ok 1)
    rw [e1] at this; exact this)
  have HV2 : Hid (∀ p F u, DiskAt u p d1 F → Calls Try.prog 58 #[.pointer (some ⟨p, 0, none⟩), suV (someS 2)] u fun e w' => e = .returned (.int .i64 0) ∧ Moved p d2 F u w') := Lib.hid (fun p F u h => by
    have := save5_any p d1 F (someS 2) u h G1 (by rw [j1]; simp) (someS_ok 2)
    rw [e2] at this; exact this)
  have HLD : Hid (∀ p F u, DiskAt u p d2 F → Calls Try.prog 59 #[.pointer (some ⟨p, 0, none⟩)] u (GivesSu (someS 2, 0) u)) := Lib.hid (fun p F u h => by
    have := load5_any p d2 F u h G2
    rw [hl] at this; exact this)
  have hnew := new_any 40 w (by decide) (by decide)
  have hpg : (someS 2).pg.length = 6 := rfl
  have heq := suEq_self (someS 2)
  have HEQ := Lib.hid heq
  clear hs1 hs2 e1 e2 hl n1 n2 j1 j2 heq G0
  generalize someS 1 = sa at *
  generalize someS 2 = sb at *
  generalize DD.new 40 = d0 at *
  go_enter Try.func56, Try.ntmps56
  go_wp2_with fail
  refine hnew.mono ?_
  rintro e w1 ⟨p, F, rfl, hd, hb1, hF⟩
  go_wp2_with fail
  refine (HS1.out _).mono ?_
  rintro e w2 ⟨rfl, hb2⟩
  have hd2 := hd.gb hb2
  have hg2 := GB.trans _ _ _ hb1 hb2
  go_wp2_with fail
  refine (HV1.out p F _ hd2).mono ?_
  rintro e w3 ⟨rfl, F1, hd3, hf3, hs3⟩
  have hg3 : GB w w3 := Below.trans hg2 (hf3.below (B := w.heap.size) (fun k _ hk => hF k hk) hg2.size)
  have hF1 : ∀ k, F1 k → w.heap.size ≤ k := fun k hk => by
    rcases hs3 k hk with h | h
    · exact hF k h
    · have := hg2.size; omega
  clear hd hd2 hb1 hb2 hf3 hs3
  go_wp2_with fail
  refine (HS2.out _).mono ?_
  rintro e w4 ⟨rfl, hb4⟩
  have hd4 := hd3.gb hb4
  have hg4 := GB.trans _ _ _ hg3 hb4
  go_wp2_with fail
  refine (HV2.out p F1 _ hd4).mono ?_
  rintro e w5 ⟨rfl, F2, hd5, hf5, hs5⟩
  have hg5 : GB w w5 := Below.trans hg4 (hf5.below (B := w.heap.size) (fun k _ hk => hF1 k hk) hg4.size)
  clear hd3 hd4 hb4 hf5 hs5 hF1 hF
  go_wp2_with fail
  refine (HLD.out p F2 _ hd5).mono ?_
  rintro e w6 ⟨rfl, hb6⟩
  have hg6 := GB.trans _ _ _ hg5 hb6
  clear hd5 hb6
  go_wp2_with (first | with_reducible refine halt_alloc 37 ?_ | with_reducible refine halt_store 37 ?_ | with_reducible refine halt_load 37 ?_ | with_reducible refine halt_alloc 82 ?_ | with_reducible refine halt_store 82 ?_)
  refine L.alloc82 rfl (by rfl) ?_
  intro w7 hT7 hG7
  simp only [Act.put, List.setIfInBounds_toArray, List.set_cons_zero, List.set_cons_succ]
  go_wp2_with (first | with_reducible refine halt_alloc 37 ?_ | with_reducible refine halt_store 37 ?_ | with_reducible refine halt_load 37 ?_ | with_reducible refine halt_alloc 82 ?_ | with_reducible refine halt_store 82 ?_)
  refine L.store82 (s := sb) rfl (by rfl) (by rfl) hT7 (by rw [suC_len _ (by rfl)]) hpg (by rfl) ?_
  intro w8 hT8 hG8
  simp only [Act.put]
  have g68 : GB w6 w8 := Below.grown hG7 hG8 hG7.size (fun k hk => by cases hk; exact Nat.le_refl _)
  have hg8 := GB.trans _ _ _ hg6 g68
  go_upto_region 5 with fail
  have hTd := Blk.gb hT8 (GB.drew w8)
  have hu0 := GB.refl w8.drew
  refine region_gb [(0,0),(1,0),(2,0),(3,0),(4,1),(5,0),(6,0),(7,0)] [] (by kernel_rfl) ?_
  iterate 3 (refine S0w (v := ?_) (by rfl) (by rfl) (fun u hu N hN => ?_) ?_; rotate_left; (go_simp; exact hN); simp only [Act.put, List.setIfInBounds_toArray, List.set_cons_zero, List.set_cons_succ])
  refine S0 (by rfl) (by rfl) (fun u hu => X.load82 rfl (by rfl) (hTd.gb hu) hpg) ?_
  simp only [Act.put, List.setIfInBounds_toArray, List.set_cons_zero, List.set_cons_succ]
  refine S1 (by rfl) (by rfl) (fun K hK => ?_)
  go_wp2_with fail
  refine (HS2.out _).mono ?_
  rintro e y ⟨rfl, hby⟩
  refine hK _ _ hby ?_
  clear hK K
  refine S0 (by rfl) (by rfl) (fun u hu => X.eql82 rfl (by rfl) (by rfl) hpg hpg) ?_
  simp only [Act.put, List.setIfInBounds_toArray, List.set_cons_zero, List.set_cons_succ]
  rw [HEQ.out]
  iterate 2 (refine S0w (v := ?_) (by rfl) (by rfl) (fun u hu N hN => ?_) ?_; rotate_left; (go_simp; exact hN); simp only [Act.put, List.setIfInBounds_toArray, List.set_cons_zero, List.set_cons_succ])
  refine S.done ?_
  go_wp2_with fail
  go_ret
  exact ⟨rfl, GB.trans _ _ _ hg8 (GB.trans _ _ _ (GB.drew w8) hby)⟩
end Go.Proofs.Ytiihllfjlgbfcaa
