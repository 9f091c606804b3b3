/- The walk of the law SuperMeans. -/
import Derived.Test.YtiihllfjlgbfcaaSSave
import Derived.Test.YtiihllfjlgbfcaaSROf
namespace Go.Proofs.Ytiihllfjlgbfcaa
open Go.RowKit
set_option maxRecDepth 100000 in
theorem blocks5_any (w : World) : Calls Try.prog 77 #[.int .i64 16, .int .i64 8] w fun e w' => e = .returned (.int .i64 26) ∧ w = w' := by
  go_enter Try.func77, Try.ntmps77
  go_wp2_with fail
  go_ret
  exact ⟨rfl, rfl⟩
/-- What the law is told of its worlds: where the superblock and the block lie. -/
structure MW (w u : World) (gS gB : Nat) (s : Su) (B : List UInt8) : Prop where
  hS : Blk u gS 82 (suC s)
  hB : Blk u gB 37 (B.map b8)
  hb : GB w u
  l2 : w.heap.size ≤ gB
  ne : gS ≠ gB
theorem MW.gb {w u x : World} {gS gB : Nat} {s : Su} {B : List UInt8} (h : MW w u gS gB s B) (g : GB u x) : MW w x gS gB s B := ⟨h.hS.gb g, h.hB.gb g, GB.trans _ _ _ h.hb g, h.l2, h.ne⟩
theorem MW.store {w u x : World} {gS gB : Nat} {s : Su} {B C : List UInt8} (h : MW w u gS gB s B) (hB : Blk x gB 37 (C.map b8)) (hG : u.grownBy x (some gB)) : MW w x gS gB s C :=
  ⟨h.hS.grown hG (fun e => by injection e with e; exact h.ne e), hB, h.hb.grown hG h.hb.size (fun k hk => by cases hk; exact h.l2), h.l2, h.ne⟩
set_option maxHeartbeats 4000000 in
set_option maxRecDepth 100000 in
theorem superMeans_walk (s : Su) (hs : s.Ok) (B : List UInt8) (hB : B.length = 256) (at_ : Int) (by_ : UInt8) (w : World) :
    Calls Try.prog 14 #[suV s, arr B, .int .i64 at_, .int .u8 (n8 by_)] w fun e w' => e = .returned (.bool true) ∧ GB w w' := by
  have HZ := Lib.hid (zeros_length 256)
  have HL := Lib.hid hB
  have HKN := Lib.hid (fun u => known5_any u)
  have HOF := Lib.hid (fun C u (h : C.length = 256) => of5_any C u h)
  have HRF := Lib.hid (fun C u (h : C.length = 256) => rof5_any C u h)
  have HMY := Lib.hid (fun u => may5_any s hs u)
  have HRM := Lib.hid (fun u => rmay5_any s hs u)
  have HBK := Lib.hid (fun u => block5_any s hs u)
  have HRB := Lib.hid (fun h u => rblock5_any s hs h u)
  have HOB := Lib.hid (fun h => of_block s hs.pg h)
  have HSL := Lib.hid (blockS_length s)
  have hpg := hs.pg
  have HSE := Lib.hid (suEq_self s)
  clear hB hs
  go_enter Try.func14, Try.ntmps14
  go_wp2_with (first | with_reducible refine halt_box 82 ?_ | with_reducible refine halt_box 37 ?_)
  refine L.box82 rfl (by rfl) (by rfl) ?_
  intro w1 hS1 hG1
  simp only [Act.put, List.setIfInBounds_toArray, List.set_cons_zero, List.set_cons_succ]
  go_wp2_with (first | with_reducible refine halt_box 82 ?_ | with_reducible refine halt_box 37 ?_)
  refine L.box rfl (by rfl) (by rfl) ?_
  intro w2 hB2 hG2
  simp only [Act.put, List.setIfInBounds_toArray, List.set_cons_zero, List.set_cons_succ]
  have h : MW w w2 w.heap.size w1.heap.size s B := ⟨hS1.gb hG2, hB2, GB.trans _ _ _ hG1 hG2, hG1.size, by have := hS1.lt; omega⟩
  clear hS1 hG1 hB2 hG2
  generalize w1.heap.size = gB at *
  go_upto_region 1 with fail
  have hd := h.gb (GB.drew w2)
  have hu0 := GB.refl w2.drew
  go_cut [25] (fun q wx => q = .bool false ∧ MW w wx w.heap.size gB s B)
  case first =>
    refine region_gb [(0,0),(2,0),(1,1),(3,1),(4,0),(5,0),(6,1),(7,0),(8,0)] [] (by kernel_rfl) ?_
    have hbb : (mayS s != mayS s) = false := by simp
    refine S0 (by rfl) (by rfl) (fun u hu => X.load82 rfl (by rfl) (hd.hS.gb hu) hpg) ?_
    simp only [Act.put, List.setIfInBounds_toArray, List.set_cons_zero, List.set_cons_succ]
    refine S0 (by rfl) (by rfl) (fun u hu => X.load82 rfl (by rfl) (hd.hS.gb hu) hpg) ?_
    simp only [Act.put, List.setIfInBounds_toArray, List.set_cons_zero, List.set_cons_succ]
    refine S1 (by rfl) (by rfl) (fun K hK => ?_)
    go_wp2_with fail
    refine (HMY.out _).mono ?_
    rintro e y ⟨rfl, hby⟩
    refine hK _ _ hby ?_
    clear hK K
    replace hu0 := GB.trans _ _ _ hu0 hby
    clear hby
    refine S1 (by rfl) (by rfl) (fun K hK => ?_)
    go_wp2_with fail
    refine (HRM.out _).mono ?_
    rintro e y2 ⟨rfl, hby⟩
    refine hK _ _ hby ?_
    clear hK K
    replace hu0 := GB.trans _ _ _ hu0 hby
    clear hby
    iterate 1 (refine S0w (v := ?_) (by rfl) (by rfl) (fun u hu N hN => ?_) ?_; rotate_left; (go_simp; exact hN); simp only [Act.put, List.setIfInBounds_toArray, List.set_cons_zero, List.set_cons_succ])
    try rw [hbb]
    iterate 1 (refine S0w (v := ?_) (by rfl) (by rfl) (fun u hu N hN => ?_) ?_; rotate_left; (go_simp; exact hN); simp only [Act.put, List.setIfInBounds_toArray, List.set_cons_zero, List.set_cons_succ])
    refine S1 (by rfl) (by rfl) (fun K hK => ?_)
    go_wp2_with fail
    refine (blocks5_any _).mono ?_
    rintro e y3 ⟨rfl, rfl⟩
    refine hK _ _ (GB.refl _) ?_
    clear hK K
    iterate 2 (refine S0w (v := ?_) (by rfl) (by rfl) (fun u hu N hN => ?_) ?_; rotate_left; (go_simp; exact hN); simp only [Act.put, List.setIfInBounds_toArray, List.set_cons_zero, List.set_cons_succ])
    refine S.done ?_
    go_wp2_with fail
    go_meet
    case rel => exact ⟨rfl, hd.gb hu0⟩
  case rest =>
    obtain ⟨rfl, h3⟩ := hcut
    clear hd hu0 h
    go_wp2_with (first | with_reducible refine halt_load 82 ?_ | with_reducible refine halt_alloc 82 ?_ | with_reducible refine halt_store 82 ?_ | with_reducible refine halt_bin 82 ?_ | with_reducible refine halt_load 37 ?_ | with_reducible refine halt_alloc 37 ?_ | with_reducible refine halt_store 37 ?_ | with_reducible refine halt_bin 37 ?_ | with_reducible refine halt_build 37 ?_)
    refine L.load82 rfl (by rfl) h3.hS hpg (by rfl) ?_
    simp only [Act.put, List.setIfInBounds_toArray, List.set_cons_zero, List.set_cons_succ]
    obtain ⟨X0, c0, hX, hc0, hXl⟩ : ∃ X0 c0, (if mayS s then blockS s else zeros 256) = X0 ∧ (if mayS s then (0 : Int) else 2) = c0 ∧ X0.length = 256 := ⟨_, _, rfl, rfl, by split; exact HSL.out; exact HZ.out⟩
    rw [hX, hc0] at HBK
    have HX := Lib.hid hX
    have HC := Lib.hid hc0
    have HXL := Lib.hid hXl
    clear hX hc0 hXl
    go_wp2_with (first | with_reducible refine halt_load 82 ?_ | with_reducible refine halt_alloc 82 ?_ | with_reducible refine halt_store 82 ?_ | with_reducible refine halt_bin 82 ?_ | with_reducible refine halt_load 37 ?_ | with_reducible refine halt_alloc 37 ?_ | with_reducible refine halt_store 37 ?_ | with_reducible refine halt_bin 37 ?_ | with_reducible refine halt_build 37 ?_)
    refine (HBK.out _).mono ?_
    rintro e w4 ⟨rfl, hb4⟩
    replace h3 := h3.gb hb4
    clear hb4
    go_wp2_with (first | with_reducible refine halt_load 82 ?_ | with_reducible refine halt_alloc 82 ?_ | with_reducible refine halt_store 82 ?_ | with_reducible refine halt_bin 82 ?_ | with_reducible refine halt_load 37 ?_ | with_reducible refine halt_alloc 37 ?_ | with_reducible refine halt_store 37 ?_ | with_reducible refine halt_bin 37 ?_ | with_reducible refine halt_build 37 ?_)
    refine L.alloc rfl zero37 (by rfl) ?_
    intro w5 hA5 hG5
    simp only [Act.put, List.setIfInBounds_toArray, List.set_cons_zero, List.set_cons_succ]
    go_wp2_with (first | with_reducible refine halt_load 82 ?_ | with_reducible refine halt_alloc 82 ?_ | with_reducible refine halt_store 82 ?_ | with_reducible refine halt_bin 82 ?_ | with_reducible refine halt_load 37 ?_ | with_reducible refine halt_alloc 37 ?_ | with_reducible refine halt_store 37 ?_ | with_reducible refine halt_bin 37 ?_ | with_reducible refine halt_build 37 ?_)
    refine L.store rfl info37 (by rfl) (by rfl) hA5 (by rw [List.length_map]; exact HZ.out) HXL.out (by rfl) ?_
    intro w6 hA6 hG6
    simp only [Act.put]
    have h6 := h3.gb (Below.grown hG5 hG6 hG5.size (fun k hk => by cases hk; exact Nat.le_refl _))
    have hltA : w4.heap.size < w6.heap.size := hA6.lt
    have hneA : gB ≠ w4.heap.size := by have := h3.hB.lt; omega
    clear hA5 hG5 hG6 h3
    generalize w4.heap.size = gA at *
    go_wp2_with (first | with_reducible refine halt_load 82 ?_ | with_reducible refine halt_alloc 82 ?_ | with_reducible refine halt_store 82 ?_ | with_reducible refine halt_bin 82 ?_ | with_reducible refine halt_load 37 ?_ | with_reducible refine halt_alloc 37 ?_ | with_reducible refine halt_store 37 ?_ | with_reducible refine halt_bin 37 ?_ | with_reducible refine halt_build 37 ?_)
    refine L.load82 rfl (by rfl) h6.hS hpg (by rfl) ?_
    simp only [Act.put, List.setIfInBounds_toArray, List.set_cons_zero, List.set_cons_succ]
    go_wp2_with (first | with_reducible refine halt_load 82 ?_ | with_reducible refine halt_alloc 82 ?_ | with_reducible refine halt_store 82 ?_ | with_reducible refine halt_bin 82 ?_ | with_reducible refine halt_load 37 ?_ | with_reducible refine halt_alloc 37 ?_ | with_reducible refine halt_store 37 ?_ | with_reducible refine halt_bin 37 ?_ | with_reducible refine halt_build 37 ?_)
    refine (HRM.out _).mono ?_
    rintro e w7 ⟨rfl, hb7⟩
    have h7 := h6.gb hb7
    have hA7 := hA6.gb hb7
    clear h6 hA6 hb7
    go_upto_if 33 with fail
    go_cut [41] (fun q wx => ∃ B', B'.length = 256 ∧ MW w wx w.heap.size gB s B')
    case first =>
      cases hm : mayS s
      · rw [hm] at HX HC
        have hx : X0 = zeros 256 := HX.out.symm
        have hc : c0 = 2 := HC.out.symm
        subst hx hc
        have hq : (!(zeros 256 == zeros 256)) = false := by simp
        clear hm HX HC
        go_wp2_with (first | with_reducible refine halt_load 82 ?_ | with_reducible refine halt_alloc 82 ?_ | with_reducible refine halt_store 82 ?_ | with_reducible refine halt_bin 82 ?_ | with_reducible refine halt_load 37 ?_ | with_reducible refine halt_alloc 37 ?_ | with_reducible refine halt_store 37 ?_ | with_reducible refine halt_bin 37 ?_ | with_reducible refine halt_build 37 ?_)
        refine L.load rfl Try.underlying37 info37 (by rfl) hA7 HZ.out (by rfl) ?_
        simp only [Act.put, List.setIfInBounds_toArray, List.set_cons_zero, List.set_cons_succ]
        go_wp2_with (first | with_reducible refine halt_load 82 ?_ | with_reducible refine halt_alloc 82 ?_ | with_reducible refine halt_store 82 ?_ | with_reducible refine halt_bin 82 ?_ | with_reducible refine halt_load 37 ?_ | with_reducible refine halt_alloc 37 ?_ | with_reducible refine halt_store 37 ?_ | with_reducible refine halt_bin 37 ?_ | with_reducible refine halt_build 37 ?_)
        refine L.val (by rfl) (X.build37 rfl) ?_
        simp only [Act.put, List.setIfInBounds_toArray, List.set_cons_zero, List.set_cons_succ]
        go_wp2_with (first | with_reducible refine halt_load 82 ?_ | with_reducible refine halt_alloc 82 ?_ | with_reducible refine halt_store 82 ?_ | with_reducible refine halt_bin 82 ?_ | with_reducible refine halt_load 37 ?_ | with_reducible refine halt_alloc 37 ?_ | with_reducible refine halt_store 37 ?_ | with_reducible refine halt_bin 37 ?_ | with_reducible refine halt_build 37 ?_)
        refine L.neq rfl Try.underlying37 guard37 (by rfl) (by rfl) HZ.out HZ.out (by rfl) ?_
        simp only [Act.put, List.setIfInBounds_toArray, List.set_cons_zero, List.set_cons_succ]
        rw [hq]
        go_wp2_with fail
        go_meet
        case rel => exact ⟨B, HL.out, h7⟩
      · rw [hm] at HX HC
        have hx : X0 = blockS s := HX.out.symm
        have hc : c0 = 0 := HC.out.symm
        subst hc
        have HRB2 := Lib.hid (HRB.out hm)
        have HO2 := Lib.hid (HOB.out hm)
        rw [← hx] at HRB2 HO2
        have HOF2 : Hid (∀ u, Calls Try.prog 79 #[arr X0] u (GivesSu (s, 0) u)) := Lib.hid (fun u => by
          have := HOF.out X0 u HXL.out
          rw [HO2.out] at this; exact this)
        have hq : (!(X0 == X0)) = false := by simp
        clear hm HX HC hx HO2
        go_upto_region 7 with fail
        have h8 := h7.gb (GB.drew w7)
        have hA8 := Blk.gb hA7 (GB.drew w7)
        have hu0 := GB.refl w7.drew
        refine region_gb [(0,0),(1,0),(2,0),(3,0),(4,0),(5,1),(6,0),(7,0)] [] (by kernel_rfl) ?_
        iterate 3 (refine S0w (v := ?_) (by rfl) (by rfl) (fun u hu N hN => ?_) ?_; rotate_left; (go_simp; exact hN); simp only [Act.put, List.setIfInBounds_toArray, List.set_cons_zero, List.set_cons_succ])
        refine S0 (by rfl) (by rfl) (fun u hu => X.load rfl (by rfl) Try.underlying37 info37 (hA8.gb hu) HXL.out) ?_
        simp only [Act.put, List.setIfInBounds_toArray, List.set_cons_zero, List.set_cons_succ]
        refine S0 (by rfl) (by rfl) (fun u hu => X.load82 rfl (by rfl) (h8.hS.gb hu) hpg) ?_
        simp only [Act.put, List.setIfInBounds_toArray, List.set_cons_zero, List.set_cons_succ]
        refine S1 (by rfl) (by rfl) (fun K hK => ?_)
        go_wp2_with fail
        refine (HRB2.out _).mono ?_
        rintro e y ⟨rfl, hby⟩
        refine hK _ _ hby ?_
        clear hK K
        replace hu0 := GB.trans _ _ _ hu0 hby
        clear hby
        refine S0 (by rfl) (by rfl) (fun u hu => X.neq rfl (by rfl) (by rfl) Try.underlying37 guard37 HXL.out HXL.out) ?_
        simp only [Act.put, List.setIfInBounds_toArray, List.set_cons_zero, List.set_cons_succ]
        rw [hq]
        iterate 1 (refine S0w (v := ?_) (by rfl) (by rfl) (fun u hu N hN => ?_) ?_; rotate_left; (go_simp; exact hN); simp only [Act.put, List.setIfInBounds_toArray, List.set_cons_zero, List.set_cons_succ])
        refine S.done ?_
        have h9 := h8.gb hu0
        have hA9 := hA8.gb hu0
        clear h8 hA8 hu0 h7 hA7 hq
        go_wp2_with (first | with_reducible refine halt_load 82 ?_ | with_reducible refine halt_alloc 82 ?_ | with_reducible refine halt_store 82 ?_ | with_reducible refine halt_bin 82 ?_ | with_reducible refine halt_load 37 ?_ | with_reducible refine halt_alloc 37 ?_ | with_reducible refine halt_store 37 ?_ | with_reducible refine halt_bin 37 ?_ | with_reducible refine halt_build 37 ?_)
        refine L.load rfl Try.underlying37 info37 (by rfl) hA9 HXL.out (by rfl) ?_
        simp only [Act.put, List.setIfInBounds_toArray, List.set_cons_zero, List.set_cons_succ]
        go_wp2_with (first | with_reducible refine halt_load 82 ?_ | with_reducible refine halt_alloc 82 ?_ | with_reducible refine halt_store 82 ?_ | with_reducible refine halt_bin 82 ?_ | with_reducible refine halt_load 37 ?_ | with_reducible refine halt_alloc 37 ?_ | with_reducible refine halt_store 37 ?_ | with_reducible refine halt_bin 37 ?_ | with_reducible refine halt_build 37 ?_)
        refine (HOF2.out _).mono ?_
        rintro e w10 ⟨rfl, hb10⟩
        replace h9 := h9.gb hb10
        replace hA9 := hA9.gb hb10
        clear hb10
        go_wp2_with (first | with_reducible refine halt_load 82 ?_ | with_reducible refine halt_alloc 82 ?_ | with_reducible refine halt_store 82 ?_ | with_reducible refine halt_bin 82 ?_ | with_reducible refine halt_load 37 ?_ | with_reducible refine halt_alloc 37 ?_ | with_reducible refine halt_store 37 ?_ | with_reducible refine halt_bin 37 ?_ | with_reducible refine halt_build 37 ?_)
        refine L.alloc82 rfl (by rfl) ?_
        intro w11 hY11 hG11
        simp only [Act.put, List.setIfInBounds_toArray, List.set_cons_zero, List.set_cons_succ]
        go_wp2_with (first | with_reducible refine halt_load 82 ?_ | with_reducible refine halt_alloc 82 ?_ | with_reducible refine halt_store 82 ?_ | with_reducible refine halt_bin 82 ?_ | with_reducible refine halt_load 37 ?_ | with_reducible refine halt_alloc 37 ?_ | with_reducible refine halt_store 37 ?_ | with_reducible refine halt_bin 37 ?_ | with_reducible refine halt_build 37 ?_)
        refine L.store82 (s := s) rfl (by rfl) (by rfl) hY11 (by rw [suC_len _ (by rfl)]) hpg (by rfl) ?_
        intro w12 hY12 hG12
        simp only [Act.put]
        have g12 : GB w10 w12 := Below.grown hG11 hG12 hG11.size (fun k hk => by cases hk; exact Nat.le_refl _)
        have h12 := h9.gb g12
        have hA12 := hA9.gb g12
        clear h9 hA9 hY11 hG11 hG12 g12
        go_wp2_with (first | with_reducible refine halt_load 82 ?_ | with_reducible refine halt_alloc 82 ?_ | with_reducible refine halt_store 82 ?_ | with_reducible refine halt_bin 82 ?_ | with_reducible refine halt_load 37 ?_ | with_reducible refine halt_alloc 37 ?_ | with_reducible refine halt_store 37 ?_ | with_reducible refine halt_bin 37 ?_ | with_reducible refine halt_build 37 ?_)
        refine L.load82 rfl (by rfl) hY12 hpg (by rfl) ?_
        simp only [Act.put, List.setIfInBounds_toArray, List.set_cons_zero, List.set_cons_succ]
        go_wp2_with (first | with_reducible refine halt_load 82 ?_ | with_reducible refine halt_alloc 82 ?_ | with_reducible refine halt_store 82 ?_ | with_reducible refine halt_bin 82 ?_ | with_reducible refine halt_load 37 ?_ | with_reducible refine halt_alloc 37 ?_ | with_reducible refine halt_store 37 ?_ | with_reducible refine halt_bin 37 ?_ | with_reducible refine halt_build 37 ?_)
        refine L.load82 rfl (by rfl) h12.hS hpg (by rfl) ?_
        simp only [Act.put, List.setIfInBounds_toArray, List.set_cons_zero, List.set_cons_succ]
        go_wp2_with (first | with_reducible refine halt_load 82 ?_ | with_reducible refine halt_alloc 82 ?_ | with_reducible refine halt_store 82 ?_ | with_reducible refine halt_bin 82 ?_ | with_reducible refine halt_load 37 ?_ | with_reducible refine halt_alloc 37 ?_ | with_reducible refine halt_store 37 ?_ | with_reducible refine halt_bin 37 ?_ | with_reducible refine halt_build 37 ?_)
        refine L.val (by rfl) (X.neq82 rfl (by rfl) (by rfl) hpg hpg) ?_
        simp only [Act.put, List.setIfInBounds_toArray, List.set_cons_zero, List.set_cons_succ]
        rw [HSE.out]
        clear hY12
        by_cases hat : 0 ≤ at_
        · obtain ⟨k, hk⟩ : ∃ k : Nat, at_ % 256 = (k : Int) := ⟨(at_ % 256).toNat, by omega⟩
          have hk256 : k < 256 := by omega
          have htm : at_.tmod 256 = (k : Int) := by rw [Int.tmod_eq_emod_of_nonneg hat]; exact hk
          clear hk
          go_wp2_with (first | with_reducible refine halt_load 82 ?_ | with_reducible refine halt_alloc 82 ?_ | with_reducible refine halt_store 82 ?_ | with_reducible refine halt_bin 82 ?_ | with_reducible refine halt_load 37 ?_ | with_reducible refine halt_alloc 37 ?_ | with_reducible refine halt_store 37 ?_ | with_reducible refine halt_bin 37 ?_ | with_reducible refine halt_build 37 ?_)
          refine L.load rfl Try.underlying37 info37 (by rfl) hA12 HXL.out (by rfl) ?_
          simp only [Act.put, List.setIfInBounds_toArray, List.set_cons_zero, List.set_cons_succ]
          go_wp2_with (first | with_reducible refine halt_load 82 ?_ | with_reducible refine halt_alloc 82 ?_ | with_reducible refine halt_store 82 ?_ | with_reducible refine halt_bin 82 ?_ | with_reducible refine halt_load 37 ?_ | with_reducible refine halt_alloc 37 ?_ | with_reducible refine halt_store 37 ?_ | with_reducible refine halt_bin 37 ?_ | with_reducible refine halt_build 37 ?_)
          refine L.store rfl info37 (by rfl) (by rfl) h12.hB (by rw [List.length_map]; exact HL.out) HXL.out (by rfl) ?_
          intro w13 hB13 hG13
          simp only [Act.put]
          have h13 := h12.store hB13 hG13
          have hk2 : k < X0.length := by rw [HXL.out]; exact hk256
          have hcell := hB13.get8 k hk2
          have hfz := hB13.frozen k
          have l1 := xor8
          generalize X0[k] = x at *
          have HSET := Lib.hid (hB13.set8 k (x ^^^ by_))
          have HL13 : Hid ((X0.set k (x ^^^ by_)).length = 256) := Lib.hid (by rw [List.length_set]; exact HXL.out)
          clear hk2 h12 hA12 hB13 hG13
          go_wp2_with fail
          go_meet
          case rel => exact ⟨_, HL13.out, (h13.hS.other (fun e => h13.ne e.symm) _ _), HSET.out, h13.hb.setCell h13.l2 _, h13.l2, h13.ne⟩
        · go_wp2_with fail
          go_meet
          case rel => exact ⟨B, HL.out, h12⟩
    case rest =>
      obtain ⟨B', hL', h8⟩ := hcut
      have HL' := Lib.hid hL'
      have HO := Lib.hid (fun u => HOF.out B' u hL')
      have HR := Lib.hid (fun u => HRF.out B' u hL')
      have hpz := ofS_pg B'
      have hcz := ofS_code B'
      clear hL' h7 hA7 HBK HRB HOB HX HC HMY HRM HOF HRF
      generalize ofS B' = r at *
      obtain ⟨z, c⟩ := r
      simp only at hpz hcz
      have HSZ := Lib.hid (suEq_self z)
      go_wp2_with (first | with_reducible refine halt_load 82 ?_ | with_reducible refine halt_alloc 82 ?_ | with_reducible refine halt_store 82 ?_ | with_reducible refine halt_bin 82 ?_ | with_reducible refine halt_load 37 ?_ | with_reducible refine halt_alloc 37 ?_ | with_reducible refine halt_store 37 ?_ | with_reducible refine halt_bin 37 ?_ | with_reducible refine halt_build 37 ?_)
      refine L.load rfl Try.underlying37 info37 (by rfl) h8.hB HL'.out (by rfl) ?_
      simp only [Act.put, List.setIfInBounds_toArray, List.set_cons_zero, List.set_cons_succ]
      go_wp2_with (first | with_reducible refine halt_load 82 ?_ | with_reducible refine halt_alloc 82 ?_ | with_reducible refine halt_store 82 ?_ | with_reducible refine halt_bin 82 ?_ | with_reducible refine halt_load 37 ?_ | with_reducible refine halt_alloc 37 ?_ | with_reducible refine halt_store 37 ?_ | with_reducible refine halt_bin 37 ?_ | with_reducible refine halt_build 37 ?_)
      refine (HO.out _).mono ?_
      rintro e w10 ⟨rfl, hb10⟩
      replace h8 := h8.gb hb10
      clear hb10
      go_wp2_with (first | with_reducible refine halt_load 82 ?_ | with_reducible refine halt_alloc 82 ?_ | with_reducible refine halt_store 82 ?_ | with_reducible refine halt_bin 82 ?_ | with_reducible refine halt_load 37 ?_ | with_reducible refine halt_alloc 37 ?_ | with_reducible refine halt_store 37 ?_ | with_reducible refine halt_bin 37 ?_ | with_reducible refine halt_build 37 ?_)
      refine L.alloc82 rfl (by rfl) ?_
      intro w11 hY11 hG11
      simp only [Act.put, List.setIfInBounds_toArray, List.set_cons_zero, List.set_cons_succ]
      go_wp2_with (first | with_reducible refine halt_load 82 ?_ | with_reducible refine halt_alloc 82 ?_ | with_reducible refine halt_store 82 ?_ | with_reducible refine halt_bin 82 ?_ | with_reducible refine halt_load 37 ?_ | with_reducible refine halt_alloc 37 ?_ | with_reducible refine halt_store 37 ?_ | with_reducible refine halt_bin 37 ?_ | with_reducible refine halt_build 37 ?_)
      refine L.store82 (s := z) rfl (by rfl) (by rfl) hY11 (by rw [suC_len _ (by rfl)]) hpz (by rfl) ?_
      intro w12 hY12 hG12
      simp only [Act.put]
      have g12 : GB w10 w12 := Below.grown hG11 hG12 hG11.size (fun k hk => by cases hk; exact Nat.le_refl _)
      have h12 := h8.gb g12
      clear h8 hY11 hG11 hG12 g12
      go_wp2_with (first | with_reducible refine halt_load 82 ?_ | with_reducible refine halt_alloc 82 ?_ | with_reducible refine halt_store 82 ?_ | with_reducible refine halt_bin 82 ?_ | with_reducible refine halt_load 37 ?_ | with_reducible refine halt_alloc 37 ?_ | with_reducible refine halt_store 37 ?_ | with_reducible refine halt_bin 37 ?_ | with_reducible refine halt_build 37 ?_)
      refine L.load rfl Try.underlying37 info37 (by rfl) h12.hB HL'.out (by rfl) ?_
      simp only [Act.put, List.setIfInBounds_toArray, List.set_cons_zero, List.set_cons_succ]
      go_wp2_with (first | with_reducible refine halt_load 82 ?_ | with_reducible refine halt_alloc 82 ?_ | with_reducible refine halt_store 82 ?_ | with_reducible refine halt_bin 82 ?_ | with_reducible refine halt_load 37 ?_ | with_reducible refine halt_alloc 37 ?_ | with_reducible refine halt_store 37 ?_ | with_reducible refine halt_bin 37 ?_ | with_reducible refine halt_build 37 ?_)
      refine (HR.out _).mono ?_
      rintro e w13 ⟨rfl, hb13⟩
      replace h12 := h12.gb hb13
      replace hY12 := hY12.gb hb13
      clear hb13
      go_wp2_with (first | with_reducible refine halt_load 82 ?_ | with_reducible refine halt_alloc 82 ?_ | with_reducible refine halt_store 82 ?_ | with_reducible refine halt_bin 82 ?_ | with_reducible refine halt_load 37 ?_ | with_reducible refine halt_alloc 37 ?_ | with_reducible refine halt_store 37 ?_ | with_reducible refine halt_bin 37 ?_ | with_reducible refine halt_build 37 ?_)
      refine L.alloc82 rfl (by rfl) ?_
      intro w14 hV14 hG14
      simp only [Act.put, List.setIfInBounds_toArray, List.set_cons_zero, List.set_cons_succ]
      go_wp2_with (first | with_reducible refine halt_load 82 ?_ | with_reducible refine halt_alloc 82 ?_ | with_reducible refine halt_store 82 ?_ | with_reducible refine halt_bin 82 ?_ | with_reducible refine halt_load 37 ?_ | with_reducible refine halt_alloc 37 ?_ | with_reducible refine halt_store 37 ?_ | with_reducible refine halt_bin 37 ?_ | with_reducible refine halt_build 37 ?_)
      refine L.store82 (s := z) rfl (by rfl) (by rfl) hV14 (by rw [suC_len _ (by rfl)]) hpz (by rfl) ?_
      intro w15 hV15 hG15
      simp only [Act.put]
      have g15 : GB w13 w15 := Below.grown hG14 hG15 hG14.size (fun k hk => by cases hk; exact Nat.le_refl _)
      have h15 := h12.gb g15
      have hY15 := hY12.gb g15
      clear h12 hY12 hV14 hG14 hG15 g15
      have hd0 : decide ((4 : Int) = 0) = false := by decide
      have hgw := h15.hb
      rcases hcz with rfl | rfl
      all_goals
        try simp only [hd0]
        go_wp2_with (first | with_reducible refine halt_load 82 ?_ | with_reducible refine halt_alloc 82 ?_ | with_reducible refine halt_store 82 ?_ | with_reducible refine halt_bin 82 ?_ | with_reducible refine halt_load 37 ?_ | with_reducible refine halt_alloc 37 ?_ | with_reducible refine halt_store 37 ?_ | with_reducible refine halt_bin 37 ?_ | with_reducible refine halt_build 37 ?_)
        refine L.load82 rfl (by rfl) hY15 hpz (by rfl) ?_
        simp only [Act.put, List.setIfInBounds_toArray, List.set_cons_zero, List.set_cons_succ]
        go_wp2_with (first | with_reducible refine halt_load 82 ?_ | with_reducible refine halt_alloc 82 ?_ | with_reducible refine halt_store 82 ?_ | with_reducible refine halt_bin 82 ?_ | with_reducible refine halt_load 37 ?_ | with_reducible refine halt_alloc 37 ?_ | with_reducible refine halt_store 37 ?_ | with_reducible refine halt_bin 37 ?_ | with_reducible refine halt_build 37 ?_)
        refine L.load82 rfl (by rfl) hV15 hpz (by rfl) ?_
        simp only [Act.put, List.setIfInBounds_toArray, List.set_cons_zero, List.set_cons_succ]
        go_wp2_with (first | with_reducible refine halt_load 82 ?_ | with_reducible refine halt_alloc 82 ?_ | with_reducible refine halt_store 82 ?_ | with_reducible refine halt_bin 82 ?_ | with_reducible refine halt_load 37 ?_ | with_reducible refine halt_alloc 37 ?_ | with_reducible refine halt_store 37 ?_ | with_reducible refine halt_bin 37 ?_ | with_reducible refine halt_build 37 ?_)
        refine L.val (by rfl) (X.eql82 rfl (by rfl) (by rfl) hpz hpz) ?_
        simp only [Act.put, List.setIfInBounds_toArray, List.set_cons_zero, List.set_cons_succ]
        rw [HSZ.out]
        go_wp2_with fail
        refine (HKN.out _).mono ?_
        rintro e w16 ⟨rfl, hb16⟩
        go_wp2_with fail
        go_ret
        exact ⟨rfl, GB.trans _ _ _ hgw hb16⟩
end Go.Proofs.Ytiihllfjlgbfcaa
