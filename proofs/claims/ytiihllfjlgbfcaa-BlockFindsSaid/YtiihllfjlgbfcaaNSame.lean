/- The walk of voileref04.Same. -/
import Derived.Test.YtiihllfjlgbfcaaRNBlock
namespace Go.Proofs.Ytiihllfjlgbfcaa
open Go.RowKit
def sameN (k1 : Int) (b1 : UInt64) (ks1 vs1 : List UInt64) (k2 : Int) (b2 : UInt64) (ks2 vs2 : List UInt64) : Bool := (k1 == k2) && (b1 == b2) && (ks1 == ks2) && (vs1 == vs2)
set_option maxHeartbeats 4000000 in
set_option maxRecDepth 100000 in
theorem rsame_any (k1 : Int) (b1 : UInt64) (ka1 : Option Addr) (ks1 : List UInt64) (kc1 : Nat) (va1 : Option Addr) (vs1 : List UInt64) (vc1 : Nat) (k2 : Int) (b2 : UInt64) (ka2 : Option Addr) (ks2 : List UInt64) (kc2 : Nat) (va2 : Option Addr) (vs2 : List UInt64) (vc2 : Nat) (w : World)
    (hl1 : ks1.length ≤ maxLen) (hl2 : vs1.length ≤ maxLen) (hk1 : Rd w ka1 (ks1.map b64)) (hv1 : Rd w va1 (vs1.map b64)) (hk2 : Rd w ka2 (ks2.map b64)) (hv2 : Rd w va2 (vs2.map b64)) :
    Calls Try.prog 69 #[nodeV k1 b1 ka1 ks1.length kc1 va1 vs1.length vc1, nodeV k2 b2 ka2 ks2.length kc2 va2 vs2.length vc2] w fun e w' => e = .returned (.bool (sameN k1 b1 ks1 vs1 k2 b2 ks2 vs2)) ∧ Below w.heap.size w w' := by
  unfold nodeV maxLen at *
  have hg : GB w ((w.alloc (.cells #[.int .i64 k1, .int .u64 (n64 b1), .slice ka1 ks1.length kc1, .slice va1 vs1.length vc1] 95)).alloc (.cells #[.int .i64 k2, .int .u64 (n64 b2), .slice ka2 ks2.length kc2, .slice va2 vs2.length vc2] 95)) := ((Below.refl _ _).alloc (Nat.le_refl _) _).alloc (by simp) _
  by_cases hbad : k1 ≠ k2 ∨ b1 ≠ b2 ∨ ks1.length ≠ ks2.length ∨ vs1.length ≠ vs2.length
  · have hs : sameN k1 b1 ks1 vs1 k2 b2 ks2 vs2 = false := by
      unfold sameN
      rcases hbad with h | h | h | h
      · rw [show (k1 == k2) = false by simpa using h]; rfl
      · rw [show (b1 == b2) = false by simpa using h]; simp
      · rw [show (ks1 == ks2) = false by rw [beq_eq_false_iff_ne]; rintro rfl; exact h rfl]; simp
      · rw [show (vs1 == vs2) = false by rw [beq_eq_false_iff_ne]; rintro rfl; exact h rfl]; simp
    rw [hs]
    clear hs
    have hc : (k1 != k2) = true ∨ ((k1 != k2) = false ∧ (n64 b1 != n64 b2) = true) ∨ ((k1 != k2) = false ∧ (n64 b1 != n64 b2) = false ∧ ((ks1.length : Int) != (ks2.length : Int)) = true) ∨ ((k1 != k2) = false ∧ (n64 b1 != n64 b2) = false ∧ ((ks1.length : Int) != (ks2.length : Int)) = false ∧ ((vs1.length : Int) != (vs2.length : Int)) = true) := by
      by_cases h1 : k1 = k2
      · by_cases h2 : b1 = b2
        · by_cases h3 : ks1.length = ks2.length
          · refine .inr (.inr (.inr ⟨by simp [h1], by simp [h2], by simp [h3], ?_⟩))
            rw [bne_iff_ne]; intro h4
            rcases hbad with h | h | h | h
            · exact h h1
            · exact h h2
            · exact h h3
            · omega
          · exact .inr (.inr (.inl ⟨by simp [h1], by simp [h2], by rw [bne_iff_ne]; omega⟩))
        · exact .inr (.inl ⟨by simp [h1], by rw [bne_iff_ne]; exact fun h => h2 (n64_inj h)⟩)
      · exact .inl (by rw [bne_iff_ne]; exact h1)
    rcases hc with c1 | ⟨c1, c2⟩ | ⟨c1, c2, c3⟩ | ⟨c1, c2, c3, c4⟩
    all_goals
      clear hbad
      go_enter Try.func69, Try.ntmps69
      go_wp2_with fail
      go_ret
      exact ⟨rfl, hg⟩
  · have e1 : k1 = k2 := Classical.byContradiction fun h => hbad (.inl h)
    have e2 : b1 = b2 := Classical.byContradiction fun h => hbad (.inr (.inl h))
    have e3 : ks1.length = ks2.length := Classical.byContradiction fun h => hbad (.inr (.inr (.inl h)))
    have e4 : vs1.length = vs2.length := Classical.byContradiction fun h => hbad (.inr (.inr (.inr h)))
    have c1 : (k1 != k2) = false := by simp [e1]
    have c2 : (n64 b1 != n64 b2) = false := by simp [e2]
    have c3 : ((ks1.length : Int) != (ks2.length : Int)) = false := by simp [e3]
    have c4 : ((vs1.length : Int) != (vs2.length : Int)) = false := by simp [e4]
    have HK := Lib.hid e1
    have HB1 := Lib.hid e2
    have HKL := Lib.hid e3
    have HVL := Lib.hid e4
    clear e1 e2 e3 e4 hbad
    have hN1 := (Blk.new w [.int .i64 k1, .int .u64 (n64 b1), .slice ka1 ks1.length kc1, .slice va1 vs1.length vc1] 95).alloc (.cells #[.int .i64 k2, .int .u64 (n64 b2), .slice ka2 ks2.length kc2, .slice va2 vs2.length vc2] 95)
    have hN2 : Blk ((w.alloc (.cells #[.int .i64 k1, .int .u64 (n64 b1), .slice ka1 ks1.length kc1, .slice va1 vs1.length vc1] 95)).alloc (.cells #[.int .i64 k2, .int .u64 (n64 b2), .slice ka2 ks2.length kc2, .slice va2 vs2.length vc2] 95)) (w.heap.size + 1) 95 [.int .i64 k2, .int .u64 (n64 b2), .slice ka2 ks2.length kc2, .slice va2 vs2.length vc2] := by
      have := Blk.new (w.alloc (.cells #[.int .i64 k1, .int .u64 (n64 b1), .slice ka1 ks1.length kc1, .slice va1 vs1.length vc1] 95)) [.int .i64 k2, .int .u64 (n64 b2), .slice ka2 ks2.length kc2, .slice va2 vs2.length vc2] 95
      simpa using this
    change Blk ((w.alloc (.cells #[.int .i64 k1, .int .u64 (n64 b1), .slice ka1 ks1.length kc1, .slice va1 vs1.length vc1] 95)).alloc (.cells #[.int .i64 k2, .int .u64 (n64 b2), .slice ka2 ks2.length kc2, .slice va2 vs2.length vc2] 95)) _ _ _ at hN1
    go_enter Try.func69, Try.ntmps69
    go_wp2_with fail
    generalize (w.alloc (.cells #[.int .i64 k1, .int .u64 (n64 b1), .slice ka1 ks1.length kc1, .slice va1 vs1.length vc1] 95)).alloc (.cells #[.int .i64 k2, .int .u64 (n64 b2), .slice ka2 ks2.length kc2, .slice va2 vs2.length vc2] 95) = w2 at *
    go_loopw [5] (fun x wr => ∃ k : Nat, k ≤ ks1.length ∧ x = .int .i64 k ∧ Hid (ks1.take k = ks2.take k) ∧ GB w2 wr) (fun x _ => ks1.length - (intOf x).toNat)
    case atStart => exact ⟨0, by omega, rfl, by simp [Hid], GB.refl _⟩
    case round =>
      obtain ⟨k, hk, rfl, htk, hb⟩ := hrel
      obtain ⟨m0, m1, m2, m3⟩ := (hN1.gb hb).c4
      obtain ⟨p0, p1, p2, p3⟩ := (hN2.gb hb).c4
      have hbb : GB w wr := bgb hg hb hg.size
      by_cases hlt : k < ks1.length
      · have hlt' : k < ks2.length := by rw [← HKL.out]; exact hlt
        obtain ⟨ad, rfl, hca⟩ := (hk1.below hbb) k (by simpa using hlt)
        obtain ⟨bd, rfl, hcb⟩ := (hk2.below hbb) k (by simpa using hlt')
        simp only [List.getElem_map, b64] at hca hcb
        have HA : ∀ u, GB wr.drew u → u.cell? (ad.add k) = some (.int .u64 (n64 ks1[k])) := fun u hu => hu.cell hca
        have HB : ∀ u, GB wr.drew u → u.cell? (bd.add k) = some (.int .u64 (n64 ks2[k])) := fun u hu => hu.cell hcb
        have HC : ∀ u, GB wr.drew u → u.cell? ⟨w.heap.size, 2, none⟩ = some (.slice (some ad) ks1.length kc1) := fun u hu => hu.cell m2
        have HD : ∀ u, GB wr.drew u → u.cell? ⟨w.heap.size + 1, 2, none⟩ = some (.slice (some bd) ks2.length kc2) := fun u hu => hu.cell p2
        have T1 := Lib.hid (List.take_succ_eq_append_getElem hlt)
        have T2 := Lib.hid (List.take_succ_eq_append_getElem hlt')
        by_cases hne : ks1[k] = ks2[k]
        · have hq : (n64 ks1[k] != n64 ks2[k]) = false := by simp [hne]
          have HE := Lib.hid hne
          clear hne
          go_wp2_with fail
          refine region_gb [(0,0),(1,0),(2,0),(3,0),(4,0),(5,0),(6,0),(7,0),(8,0),(9,0),(10,0)] [] (by kernel_rfl) ?_
          repeat (refine S0w (v := ?_) (by rfl) (by rfl) (fun u hu N hN => ?_) ?_; rotate_left; (go_simp; exact hN); simp only [Act.put, List.setIfInBounds_toArray, List.set_cons_zero, List.set_cons_succ])
          refine S.done ?_
          go_wp2_with fail
          go_roundw
          case rel => exact ⟨k + 1, by omega, by go_num, by show _ = _; rw [T1.out, T2.out, htk.out, HE.out], GB.trans _ _ _ hb (GB.drew _)⟩
          case measure => simp [intOf]; omega
        · have hq : (n64 ks1[k] != n64 ks2[k]) = true := by rw [bne_iff_ne]; exact fun h => hne (n64_inj h)
          have hlm : (ks1 == ks2) = false := by rw [beq_eq_false_iff_ne]; rintro rfl; exact hne rfl
          have hsf : sameN k1 b1 ks1 vs1 k2 b2 ks2 vs2 = false := by unfold sameN; rw [hlm]; simp
          have HF := Lib.hid hsf
          clear hsf hlm hne
          go_wp2_with fail
          refine region_gb [(0,0),(1,0),(2,0),(3,0),(4,0),(5,0),(6,0),(7,0),(8,0),(9,0),(10,0)] [] (by kernel_rfl) ?_
          repeat (refine S0w (v := ?_) (by rfl) (by rfl) (fun u hu N hN => ?_) ?_; rotate_left; (go_simp; exact hN); simp only [Act.put, List.setIfInBounds_toArray, List.set_cons_zero, List.set_cons_succ])
          refine S.done ?_
          go_wp2_with fail
          go_ret
          exact ⟨by rw [HF.out]; rfl, bgb hg (GB.trans _ _ _ hb (GB.drew _)) hg.size⟩
      · have hlm : (ks1 == ks2) = true := by
          have h1 := htk.out
          have h2 := HKL.out
          rw [List.take_of_length_le (by omega), List.take_of_length_le (by omega)] at h1
          rw [beq_iff_eq]; exact h1
        have HM1 := Lib.hid hlm
        clear hlm
        have hbw := hb
        clear htk hb hbb
        go_wp2_with fail
        clear m0 m1 m2 m3 p0 p1 p2 p3
        go_loopw [6] (fun x wr => ∃ k : Nat, k ≤ vs1.length ∧ x = .int .i64 k ∧ Hid (vs1.take k = vs2.take k) ∧ GB w2 wr) (fun x _ => vs1.length - (intOf x).toNat)
        case atStart => exact ⟨0, by omega, rfl, by simp [Hid], hbw⟩
        case round =>
          obtain ⟨k, hk, rfl, htk, hb⟩ := hrel
          obtain ⟨m0, m1, m2, m3⟩ := (hN1.gb hb).c4
          obtain ⟨p0, p1, p2, p3⟩ := (hN2.gb hb).c4
          have hbb : GB w wr := bgb hg hb hg.size
          by_cases hlt : k < vs1.length
          · have hlt' : k < vs2.length := by rw [← HVL.out]; exact hlt
            obtain ⟨ad, rfl, hca⟩ := (hv1.below hbb) k (by simpa using hlt)
            obtain ⟨bd, rfl, hcb⟩ := (hv2.below hbb) k (by simpa using hlt')
            simp only [List.getElem_map, b64] at hca hcb
            have HA : ∀ u, GB wr.drew u → u.cell? (ad.add k) = some (.int .u64 (n64 vs1[k])) := fun u hu => hu.cell hca
            have HB : ∀ u, GB wr.drew u → u.cell? (bd.add k) = some (.int .u64 (n64 vs2[k])) := fun u hu => hu.cell hcb
            have HC : ∀ u, GB wr.drew u → u.cell? ⟨w.heap.size, 3, none⟩ = some (.slice (some ad) vs1.length vc1) := fun u hu => hu.cell m3
            have HD : ∀ u, GB wr.drew u → u.cell? ⟨w.heap.size + 1, 3, none⟩ = some (.slice (some bd) vs2.length vc2) := fun u hu => hu.cell p3
            have T1 := Lib.hid (List.take_succ_eq_append_getElem hlt)
            have T2 := Lib.hid (List.take_succ_eq_append_getElem hlt')
            by_cases hne : vs1[k] = vs2[k]
            · have hq : (n64 vs1[k] != n64 vs2[k]) = false := by simp [hne]
              have HE := Lib.hid hne
              clear hne
              go_wp2_with fail
              refine region_gb [(0,0),(1,0),(2,0),(3,0),(4,0),(5,0),(6,0),(7,0),(8,0),(9,0),(10,0)] [] (by kernel_rfl) ?_
              repeat (refine S0w (v := ?_) (by rfl) (by rfl) (fun u hu N hN => ?_) ?_; rotate_left; (go_simp; exact hN); simp only [Act.put, List.setIfInBounds_toArray, List.set_cons_zero, List.set_cons_succ])
              refine S.done ?_
              go_wp2_with fail
              go_roundw
              case rel => exact ⟨k + 1, by omega, by go_num, by show _ = _; rw [T1.out, T2.out, htk.out, HE.out], GB.trans _ _ _ hb (GB.drew _)⟩
              case measure => simp [intOf]; omega
            · have hq : (n64 vs1[k] != n64 vs2[k]) = true := by rw [bne_iff_ne]; exact fun h => hne (n64_inj h)
              have hlm : (vs1 == vs2) = false := by rw [beq_eq_false_iff_ne]; rintro rfl; exact hne rfl
              have hsf : sameN k1 b1 ks1 vs1 k2 b2 ks2 vs2 = false := by unfold sameN; rw [hlm]; simp
              have HF := Lib.hid hsf
              clear hsf hlm hne
              go_wp2_with fail
              refine region_gb [(0,0),(1,0),(2,0),(3,0),(4,0),(5,0),(6,0),(7,0),(8,0),(9,0),(10,0)] [] (by kernel_rfl) ?_
              repeat (refine S0w (v := ?_) (by rfl) (by rfl) (fun u hu N hN => ?_) ?_; rotate_left; (go_simp; exact hN); simp only [Act.put, List.setIfInBounds_toArray, List.set_cons_zero, List.set_cons_succ])
              refine S.done ?_
              go_wp2_with fail
              go_ret
              exact ⟨by rw [HF.out]; rfl, bgb hg (GB.trans _ _ _ hb (GB.drew _)) hg.size⟩
          · have hlm : (vs1 == vs2) = true := by
              have h1 := htk.out
              have h2 := HVL.out
              rw [List.take_of_length_le (by omega), List.take_of_length_le (by omega)] at h1
              rw [beq_iff_eq]; exact h1
            have HM2 := Lib.hid hlm
            clear hlm
            have hst : sameN k1 b1 ks1 vs1 k2 b2 ks2 vs2 = true := by unfold sameN; rw [HM1.out, HM2.out, HK.out, HB1.out]; simp
            have HT := Lib.hid hst
            clear hst
            go_wp2_with fail
            go_ret
            exact ⟨by rw [HT.out]; rfl, bgb hg hb hg.size⟩
end Go.Proofs.Ytiihllfjlgbfcaa
