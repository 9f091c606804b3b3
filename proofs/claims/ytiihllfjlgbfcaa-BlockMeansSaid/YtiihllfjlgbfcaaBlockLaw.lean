/- The walk of the law BlockMeans. -/
import Derived.Test.YtiihllfjlgbfcaaNPlain
import Derived.Test.YtiihllfjlgbfcaaNSame
namespace Go.Proofs.Ytiihllfjlgbfcaa
open Go.RowKit
theorem ofN_code (no : UInt32) (B : List UInt8) : (ofN no B).code = 0 ∨ (ofN no B).code = 4 := by unfold ofN; split <;> simp
theorem ofN_len (no : UInt32) (B : List UInt8) : (ofN no B).keys.length ≤ 6 ∧ (ofN no B).vals.length ≤ 6 := by
  have h : manyOf B ≤ 6 := by unfold manyOf; omega
  unfold ofN; split <;> simp [keysOf, valsOf, h]
theorem sameN_refl (k : Int) (b : UInt64) (ks vs : List UInt64) : sameN k b ks vs k b ks vs = true := by simp [sameN]
set_option maxHeartbeats 4000000 in
set_option maxRecDepth 100000 in
theorem blockMeans_walk (no : UInt32) (kind : Int) (birth : UInt64) (ka : Option Addr) (ks : List UInt64) (kc : Nat) (va : Option Addr) (vs : List UInt64) (vc : Nat) (B : List UInt8) (j : Int) (x : UInt8) (w : World) (hBl : B.length = 256)
    (hl1 : ks.length ≤ maxLen) (hl2 : vs.length ≤ maxLen) (hrk : Rd w ka (ks.map b64)) (hrv : Rd w va (vs.map b64)) :
    Calls Try.prog 10 #[.int .u32 (n32 no), nodeV kind birth ka ks.length kc va vs.length vc, arr B, .int .i64 j, .int .u8 (n8 x)] w fun e w' => e = .returned (.bool true) ∧ Below w.heap.size w w' := by
  have HL := Lib.hid hBl
  clear hBl
  have hmay := fun u (hu : GB w u) => may_any kind birth ka ks kc va vs.length vc u hl1 (hu.rd hrk)
  have hrmay := fun u (hu : GB w u) => rmay_any kind birth ka ks kc va vs.length vc u hl1 (hu.rd hrk)
  have hblk := fun u (hu : GB w u) => nblock_any no kind birth ka ks kc va vs vc u hl1 (hu.rd hrk) (hu.rd hrv)
  have HM := Lib.hid hmay
  have HRM := Lib.hid hrmay
  have HB := Lib.hid hblk
  clear hmay hrmay hblk
  unfold nodeV at *
  have hbl := Blk.new w [.int .i64 kind, .int .u64 (n64 birth), .slice ka ks.length kc, .slice va vs.length vc] 95
  have hg := (Below.refl w.heap.size w).alloc (Nat.le_refl _) (.cells #[.int .i64 kind, .int .u64 (n64 birth), .slice ka ks.length kc, .slice va vs.length vc] 95)
  change Blk (w.alloc (.cells #[.int .i64 kind, .int .u64 (n64 birth), .slice ka ks.length kc, .slice va vs.length vc] 95)) _ _ _ at hbl
  go_enter Try.func10, Try.ntmps10
  go_wp2_with (first | with_reducible refine halt_box 37 ?_)
  generalize w.alloc (.cells #[.int .i64 kind, .int .u64 (n64 birth), .slice ka ks.length kc, .slice va vs.length vc] 95) = w0 at *
  refine L.box rfl (by rfl) (by rfl) ?_
  intro w1 hB1 hG1
  simp only [Act.put, List.setIfInBounds_toArray, List.set_cons_zero, List.set_cons_succ]
  have hbl1 := hbl.gb hG1
  have hlt := hbl.lt
  have hs0 := hg.size
  have hg1 := bgb hg hG1 hg.size
  obtain ⟨c0, c1, c2, c3⟩ := hbl1.c4
  by_cases hbig : 20 < ks.length ∨ 20 < vs.length
  · rcases (show 20 < ks.length ∨ (¬ 20 < ks.length ∧ 20 < vs.length) by omega) with h | ⟨h, h'⟩
    all_goals
      go_wp2_with fail
      refine (known4_any _).mono ?_
      rintro e w2 ⟨rfl, hb2⟩
      go_wp2_with fail
      go_ret
      exact ⟨rfl, bgb hg1 hb2 hg1.size⟩
  have h1 : ¬ 20 < ks.length := by omega
  have h2 : ¬ 20 < vs.length := by omega
  have C4 : ∀ u, GB w1.drew u → u.cell? ⟨w.heap.size, 0, none⟩ = some (.int .i64 kind) ∧ u.cell? ⟨w.heap.size, 1, none⟩ = some (.int .u64 (n64 birth)) ∧ u.cell? ⟨w.heap.size, 2, none⟩ = some (.slice ka ks.length kc) ∧ u.cell? ⟨w.heap.size, 3, none⟩ = some (.slice va vs.length vc) := fun u hu => ((hbl1.gb (GB.drew _)).gb hu).c4
  have S0' := fun u hu => (C4 u hu).1
  have S1' := fun u hu => (C4 u hu).2.1
  have S2' := fun u hu => (C4 u hu).2.2.1
  have S3' := fun u hu => (C4 u hu).2.2.2
  clear C4
  go_wp2_with fail
  refine region_gb [(0,0),(2,0),(1,1),(3,1),(4,0)] [] (by kernel_rfl) ?_
  iterate 2 (refine S0w (v := ?_) (by rfl) (by rfl) (fun u hu N hN => ?_) ?_; rotate_left; (go_simp; exact hN); simp only [Act.put, List.setIfInBounds_toArray, List.set_cons_zero, List.set_cons_succ])
  have hgd := GB.drew w1
  refine S1 (by rfl) (by rfl) (fun K hK => ?_)
  go_wp2_with fail
  refine (HM.out _ (bgb hg1 hgd hg1.size)).mono ?_
  rintro e w2 ⟨rfl, hb2⟩
  refine hK _ _ hb2 ?_
  clear hK K
  have hg12 := GB.trans _ _ _ hgd hb2
  refine S1 (by rfl) (by rfl) (fun K hK => ?_)
  go_wp2_with fail
  refine (HRM.out _ (bgb hg1 hg12 hg1.size)).mono ?_
  rintro e w3 ⟨rfl, hb3⟩
  refine hK _ _ hb3 ?_
  clear hK K
  have hg13 := GB.trans _ _ _ hg12 hb3
  repeat (refine S0w (v := ?_) (by rfl) (by rfl) (fun u hu N hN => ?_) ?_; rotate_left; (go_simp; exact hN); simp only [Act.put, List.setIfInBounds_toArray, List.set_cons_zero, List.set_cons_succ])
  refine S.done ?_
  have hbl3 := hbl1.gb hg13
  have hB3 := hB1.gb hg13
  have hg3 := bgb hg1 hg13 hg1.size
  clear S0' S1' S2' S3' c0 c1 c2 c3 hb2 hb3 hg12 hgd hbl1 hbl hB1
  obtain ⟨c0, c1, c2, c3⟩ := hbl3.c4
  have hnn : (mayN kind ks vs.length != mayN kind ks vs.length) = false := by simp
  go_wp2_with fail
  by_cases hm : mayN kind ks vs.length = true
  · have h2 := hm
    unfold mayN at h2
    simp only [Bool.and_eq_true, decide_eq_true_eq, beq_iff_eq] at h2
    have hk6 : ks.length ≤ 6 := h2.1.1.2
    have hkv : ks.length = vs.length := h2.1.2.symm
    have hofn := ofN_node no kind birth ks vs hm
    have hbk := HB.out _ hg3
    rw [if_pos hm, if_pos hm] at hbk
    rw [hm] at HRM
    have hrb := fun u (hu : GB w u) => rnblock_any no kind birth ka ks kc va vs vc u hk6 hkv (hu.rd hrk) (hu.rd hrv)
    have hsl : (nodeBlock no kind birth ks vs).length = 256 := summed_length _
    generalize nodeBlock no kind birth ks vs = C at *
    have hnofC := fun u => nof_any no C u hsl
    rw [hofn] at hnofC
    have HC := Lib.hid hsl
    have HRB := Lib.hid hrb
    have HNC := Lib.hid hnofC
    have hz := Lib.hid (zeros_length 256)
    have HKV := Lib.hid hkv
    clear hm hnn h2 hk6 hkv hofn hrb hsl hnofC
    refine hbk.mono ?_
    rintro e w4 ⟨rfl, hb4⟩
    have hbl4 := hbl3.gb hb4
    have hB4 := hB3.gb hb4
    have hg4 := bgb hg3 hb4 hg3.size
    clear hbk c0 c1 c2 c3 hbl3 hB3
    go_wp2_with (first | with_reducible refine halt_load 37 ?_ | with_reducible refine halt_bin 37 ?_ | with_reducible refine halt_build 37 ?_ | with_reducible refine halt_alloc 37 ?_ | with_reducible refine halt_store 37 ?_)
    refine L.alloc rfl zero37 (by rfl) ?_
    intro w5 hC5 hG5
    simp only [Act.put, List.setIfInBounds_toArray, List.set_cons_zero, List.set_cons_succ]
    go_wp2_with (first | with_reducible refine halt_load 37 ?_ | with_reducible refine halt_bin 37 ?_ | with_reducible refine halt_build 37 ?_ | with_reducible refine halt_alloc 37 ?_ | with_reducible refine halt_store 37 ?_)
    refine L.store rfl info37 (by rfl) (by rfl) hC5 (by rw [List.length_map]; exact hz.out) HC.out (by rfl) ?_
    intro w6 hC6 hG6
    simp only [Act.put]
    have f6 : Fr (fun _ => False) w4 w6 := (Fr.of_gb hG5).grown hG6 (fun j hj => .inr (by cases hj; omega))
    have hbl6 := f6.blk hbl4 (fun h => h)
    have hB6 := f6.blk hB4 (fun h => h)
    have hg6 : Below w.heap.size w w6 := hg4.trans (f6.below (B := w.heap.size) (fun _ _ h => h.elim) hg4.size)
    clear hC5 hG5 hG6 f6 hbl4 hB4 hg4 hb4
    obtain ⟨c0, c1, c2, c3⟩ := hbl6.c4
    go_wp2_with fail
    refine (HRM.out _ hg6).mono ?_
    rintro e w7 ⟨rfl, hb7⟩
    have hC7 := hC6.gb hb7
    have hB7 := hB6.gb hb7
    have hbl7 := hbl6.gb hb7
    have hg7 := bgb hg6 hb7 hg6.size
    have hC7d := Blk.gb hC7 (GB.drew w7)
    have C4 : ∀ u, GB w7.drew u → u.cell? ⟨w.heap.size, 0, none⟩ = some (.int .i64 kind) ∧ u.cell? ⟨w.heap.size, 1, none⟩ = some (.int .u64 (n64 birth)) ∧ u.cell? ⟨w.heap.size, 2, none⟩ = some (.slice ka ks.length kc) ∧ u.cell? ⟨w.heap.size, 3, none⟩ = some (.slice va vs.length vc) := fun u hu => ((hbl7.gb (GB.drew _)).gb hu).c4
    have S0' := fun u hu => (C4 u hu).1
    have S1' := fun u hu => (C4 u hu).2.1
    have S2' := fun u hu => (C4 u hu).2.2.1
    have S3' := fun u hu => (C4 u hu).2.2.2
    have hqc : (!(C == C)) = false := by simp
    clear C4 c0 c1 c2 c3 hC6 hB6 hbl6 hg6 hb7
    go_wp2_with fail
    refine region_gb [(0,0),(1,0),(2,0),(3,0),(4,0),(5,0),(6,1),(7,0),(8,0)] [] (by kernel_rfl) ?_
    iterate 3 (refine S0w (v := ?_) (by rfl) (by rfl) (fun u hu N hN => ?_) ?_; rotate_left; (go_simp; exact hN); simp only [Act.put, List.setIfInBounds_toArray, List.set_cons_zero, List.set_cons_succ])
    refine S0 (by rfl) (by rfl) (fun u hu => X.load rfl (by rfl) Try.underlying37 info37 (hC7d.gb hu) HC.out) ?_
    simp only [Act.put, List.setIfInBounds_toArray, List.set_cons_zero, List.set_cons_succ]
    iterate 2 (refine S0w (v := ?_) (by rfl) (by rfl) (fun u hu N hN => ?_) ?_; rotate_left; (go_simp; exact hN); simp only [Act.put, List.setIfInBounds_toArray, List.set_cons_zero, List.set_cons_succ])
    refine S1 (by rfl) (by rfl) (fun K hK => ?_)
    go_wp2_with fail
    refine (HRB.out _ (bgb hg7 (GB.drew _) hg7.size)).mono ?_
    rintro e w8 ⟨rfl, hb8⟩
    refine hK _ _ hb8 ?_
    clear hK K
    refine S0 (by rfl) (by rfl) (fun u hu => X.neq rfl (by rfl) (by rfl) Try.underlying37 guard37 HC.out HC.out) ?_
    simp only [Act.put, List.setIfInBounds_toArray, List.set_cons_zero, List.set_cons_succ]
    repeat (refine S0w (v := ?_) (by rfl) (by rfl) (fun u hu N hN => ?_) ?_; rotate_left; (go_simp; exact hN); simp only [Act.put, List.setIfInBounds_toArray, List.set_cons_zero, List.set_cons_succ])
    refine S.done ?_
    have g78 := GB.trans _ _ _ (GB.drew w7) hb8
    have hC8 := hC7.gb g78
    have hB8 := hB7.gb g78
    have hbl8 := hbl7.gb g78
    have hg8 := bgb hg7 g78 hg7.size
    clear S0' S1' S2' S3' hC7 hB7 hbl7 hg7 hC7d g78 hb8
    go_wp2_with (first | with_reducible refine halt_load 37 ?_ | with_reducible refine halt_bin 37 ?_ | with_reducible refine halt_build 37 ?_ | with_reducible refine halt_alloc 37 ?_ | with_reducible refine halt_store 37 ?_)
    refine L.load rfl Try.underlying37 info37 (by rfl) hC8 HC.out (by rfl) ?_
    simp only [Act.put, List.setIfInBounds_toArray, List.set_cons_zero, List.set_cons_succ]
    go_wp2_with fail
    refine (HNC.out _).mono ?_
    rintro e w9 ⟨na, nac, nv, nvc, rfl, hnk, hnv, hb9⟩
    simp only [nodeV]
    have hC9 := hC8.gb hb9
    have hB9 := hB8.gb hb9
    have hbl9 := hbl8.gb hb9
    have hg9 := bgb hg8 hb9 hg8.size
    have hN10 := Blk.new w9 ([.int .i64 kind, .int .u64 (n64 birth), .slice na ks.length nac, .slice nv vs.length nvc]) 95
    have gg10 : GB w9 (w9.alloc (.cells #[.int .i64 kind, .int .u64 (n64 birth), .slice na ks.length nac, .slice nv vs.length nvc] 95)) := (Below.refl _ _).alloc (Nat.le_refl _) _
    change Blk (w9.alloc (.cells #[.int .i64 kind, .int .u64 (n64 birth), .slice na ks.length nac, .slice nv vs.length nvc] 95)) _ _ _ at hN10
    go_wp2_with (first | with_reducible refine halt_bin 38 ?_)
    generalize w9.alloc (.cells #[.int .i64 kind, .int .u64 (n64 birth), .slice na ks.length nac, .slice nv vs.length nvc] 95) = w10 at *
    have hC10 := hC9.gb gg10
    have hB10 := hB9.gb gg10
    have hbl10 := hbl9.gb gg10
    have hg10 := bgb hg9 gg10 hg9.size
    have hsame := rsame_any kind birth na ks nac nv vs nvc kind birth ka ks kc va vs vc w10 hl1 hl2 (hnk.below gg10) (hnv.below gg10) (hrk.below hg10) (hrv.below hg10)
    rw [sameN_refl] at hsame
    unfold nodeV at hsame
    obtain ⟨p0, p1, p2, p3⟩ := hN10.c4
    obtain ⟨q0, q1, q2, q3⟩ := hbl10.c4
    clear hC9 hB9 hbl9 hg9 gg10 hbl8 hB8 hC8 hg8
    refine L.go ?_
    go_wp2_with fail
    refine hsame.mono ?_
    rintro e w11 ⟨rfl, hb11⟩
    have hC11 := hC10.gb hb11
    have hB11 := hB10.gb hb11
    have hbx := bgb hg10 hb11 hg10.size
    clear p0 p1 p2 p3 q0 q1 q2 q3 hsame hN10 hbl10 hC10 hB10 hg10 hb11
    by_cases hj : j < 0
    · have hBx := hB11
      have HX := HL
      have hof := fun u => nof_any no B u HX.out
      have hrf := fun u => rnof_any no B u HX.out
      have hcd := ofN_code no B
      have hln := ofN_len no B
      generalize ofN no B = r at *
      obtain ⟨rk, rb, rks, rvs, rc⟩ := r
      have HOF := Lib.hid hof
      have HRF := Lib.hid hrf
      clear hof hrf
      dsimp only at hcd hln
      have HLN := Lib.hid hln
      clear hln
      rcases hcd with rfl | rfl
      all_goals
        go_wp2_with (first | with_reducible refine halt_load 37 ?_ | with_reducible refine halt_bin 37 ?_ | with_reducible refine halt_build 37 ?_ | with_reducible refine halt_alloc 37 ?_ | with_reducible refine halt_store 37 ?_)
        refine L.load rfl Try.underlying37 info37 (by rfl) hBx HX.out (by rfl) ?_
        simp only [Act.put, List.setIfInBounds_toArray, List.set_cons_zero, List.set_cons_succ]
        go_wp2_with fail
        refine (HOF.out _).mono ?_
        rintro e u7 ⟨ra, rac, rv, rvc, rfl, hrk7, hrv7, hb7⟩
        have hB7 := hBx.gb hb7
        have hbx7 := bgb hbx hb7 hbx.size
        simp only [nodeV]
        go_wp2_with (first | with_reducible refine halt_load 37 ?_ | with_reducible refine halt_bin 37 ?_ | with_reducible refine halt_build 37 ?_ | with_reducible refine halt_alloc 37 ?_ | with_reducible refine halt_store 37 ?_)
        have hN8 := Blk.new u7 ([.int .i64 rk, .int .u64 (n64 rb), .slice ra rks.length rac, .slice rv rvs.length rvc]) 95
        have gg8 : GB u7 (u7.alloc (.cells #[.int .i64 rk, .int .u64 (n64 rb), .slice ra rks.length rac, .slice rv rvs.length rvc] 95)) := (Below.refl _ _).alloc (Nat.le_refl _) _
        change Blk (u7.alloc (.cells #[.int .i64 rk, .int .u64 (n64 rb), .slice ra rks.length rac, .slice rv rvs.length rvc] 95)) _ _ _ at hN8
        generalize u7.alloc (.cells #[.int .i64 rk, .int .u64 (n64 rb), .slice ra rks.length rac, .slice rv rvs.length rvc] 95) = u8 at *
        have hB8 := hB7.gb gg8
        have hb8 := bgb hbx7 gg8 hbx7.size
        have hrk8 := hrk7.below gg8
        have hrv8 := hrv7.below gg8
        refine L.load rfl Try.underlying37 info37 (by rfl) hB8 HX.out (by rfl) ?_
        simp only [Act.put, List.setIfInBounds_toArray, List.set_cons_zero, List.set_cons_succ]
        go_wp2_with fail
        refine (HRF.out _).mono ?_
        rintro e u9 ⟨sa, sac, sv, svc, rfl, hsk, hsv, hb9⟩
        have hN9 := hN8.gb hb9
        have hrk9 := hrk8.below hb9
        have hrv9 := hrv8.below hb9
        have hbw9 := bgb hb8 hb9 hb8.size
        simp only [nodeV]
        have hN10 := Blk.new u9 ([.int .i64 rk, .int .u64 (n64 rb), .slice sa rks.length sac, .slice sv rvs.length svc]) 95
        have gg10 : GB u9 (u9.alloc (.cells #[.int .i64 rk, .int .u64 (n64 rb), .slice sa rks.length sac, .slice sv rvs.length svc] 95)) := (Below.refl _ _).alloc (Nat.le_refl _) _
        change Blk (u9.alloc (.cells #[.int .i64 rk, .int .u64 (n64 rb), .slice sa rks.length sac, .slice sv rvs.length svc] 95)) _ _ _ at hN10
        have hsame := rsame_any rk rb ra rks rac rv rvs rvc rk rb sa rks sac sv rvs svc (u9.alloc (.cells #[.int .i64 rk, .int .u64 (n64 rb), .slice sa rks.length sac, .slice sv rvs.length svc] 95)) (by have := HLN.out.1; unfold maxLen; omega) (by have := HLN.out.2; unfold maxLen; omega) (hrk9.below gg10) (hrv9.below gg10) (hsk.below gg10) (hsv.below gg10)
        rw [sameN_refl] at hsame
        unfold nodeV at hsame
        have hN9' := hN9.gb gg10
        go_wp2_with (first | with_reducible refine halt_bin 38 ?_)
        generalize u9.alloc (.cells #[.int .i64 rk, .int .u64 (n64 rb), .slice sa rks.length sac, .slice sv rvs.length svc] 95) = u10 at *
        have hb10 := bgb hbw9 gg10 hbw9.size
        obtain ⟨p0, p1, p2, p3⟩ := hN9'.c4
        obtain ⟨q0, q1, q2, q3⟩ := hN10.c4
        refine L.go ?_
        go_wp2_with fail
        refine hsame.mono ?_
        rintro e u11 ⟨rfl, hb11⟩
        clear p0 p1 p2 p3 q0 q1 q2 q3
        go_wp2_with fail
        refine (known4_any _).mono ?_
        rintro e u12 ⟨rfl, hb12⟩
        go_wp2_with fail
        go_ret
        have hb111 := bgb hb10 hb11 hb10.size
        exact ⟨rfl, bgb hb111 hb12 hb111.size⟩
    · obtain ⟨p, rfl⟩ := Int.eq_ofNat_of_zero_le (show 0 ≤ j by omega)
      go_wp2_with (first | with_reducible refine halt_load 37 ?_ | with_reducible refine halt_bin 37 ?_ | with_reducible refine halt_build 37 ?_ | with_reducible refine halt_alloc 37 ?_ | with_reducible refine halt_store 37 ?_)
      refine L.load rfl Try.underlying37 info37 (by rfl) hC11 HC.out (by rfl) ?_
      simp only [Act.put, List.setIfInBounds_toArray, List.set_cons_zero, List.set_cons_succ]
      go_wp2_with (first | with_reducible refine halt_load 37 ?_ | with_reducible refine halt_bin 37 ?_ | with_reducible refine halt_build 37 ?_ | with_reducible refine halt_alloc 37 ?_ | with_reducible refine halt_store 37 ?_)
      refine L.store rfl info37 (by rfl) (by rfl) hB11 (by rw [List.length_map]; exact HL.out) HC.out (by rfl) ?_
      intro u6 hB7 hG7
      simp only [Act.put]
      have e1 : ((p : Int)).tmod 256 = ((p % 256 : Nat) : Int) := by rw [Int.tmod_eq_emod_of_nonneg (by omega)]; omega
      have hlt : p % 256 < 256 := Nat.mod_lt _ (by omega)
      generalize p % 256 = q at *
      have hc := hB7.get8 q (by rw [HC.out]; omega)
      have hfz := hB7.frozen q
      generalize C[q]'(by rw [HC.out]; omega) = y at *
      have l1 := xor8
      have hB8 : Blk (u6.setCell ⟨w0.heap.size, q, none⟩ (.int .u8 (n8 (y ^^^ x)))) w0.heap.size 37 ((C.set q (y ^^^ x)).map b8) := hB7.set8 q _
      have hb8 : Below w.heap.size w (u6.setCell ⟨w0.heap.size, q, none⟩ (.int .u8 (n8 (y ^^^ x)))) := (hbx.grown hG7 hbx.size (fun k hk => by cases hk; omega)).setCell (by show _ ≤ w0.heap.size; omega) _
      clear hbx
      have hx : (C.set q (y ^^^ x)).length = 256 := by rw [List.length_set]; exact HC.out
      go_wp2_with (first | with_reducible refine halt_load 37 ?_ | with_reducible refine halt_bin 37 ?_ | with_reducible refine halt_build 37 ?_ | with_reducible refine halt_alloc 37 ?_ | with_reducible refine halt_store 37 ?_)
      generalize C.set q (y ^^^ x) = BX at *
      generalize u6.setCell ⟨w0.heap.size, q, none⟩ (.int .u8 (n8 (y ^^^ x))) = u8 at *
      have HX := Lib.hid hx
      have hBx := Lib.hid hB8
      have hbx := hb8
      clear hx hB8 hb8 hB7 hG7 hc hfz l1
      have hof := fun u => nof_any no BX u HX.out
      have hrf := fun u => rnof_any no BX u HX.out
      have hcd := ofN_code no BX
      have hln := ofN_len no BX
      generalize ofN no BX = r at *
      obtain ⟨rk, rb, rks, rvs, rc⟩ := r
      have HOF := Lib.hid hof
      have HRF := Lib.hid hrf
      clear hof hrf
      dsimp only at hcd hln
      have HLN := Lib.hid hln
      clear hln
      rcases hcd with rfl | rfl
      all_goals
        go_wp2_with (first | with_reducible refine halt_load 37 ?_ | with_reducible refine halt_bin 37 ?_ | with_reducible refine halt_build 37 ?_ | with_reducible refine halt_alloc 37 ?_ | with_reducible refine halt_store 37 ?_)
        refine L.load rfl Try.underlying37 info37 (by rfl) hBx.out HX.out (by rfl) ?_
        simp only [Act.put, List.setIfInBounds_toArray, List.set_cons_zero, List.set_cons_succ]
        go_wp2_with fail
        refine (HOF.out _).mono ?_
        rintro e u7 ⟨ra, rac, rv, rvc, rfl, hrk7, hrv7, hb7⟩
        have hB7 := Blk.gb hBx.out hb7
        have hbx7 := bgb hbx hb7 hbx.size
        simp only [nodeV]
        go_wp2_with (first | with_reducible refine halt_load 37 ?_ | with_reducible refine halt_bin 37 ?_ | with_reducible refine halt_build 37 ?_ | with_reducible refine halt_alloc 37 ?_ | with_reducible refine halt_store 37 ?_)
        have hN8 := Blk.new u7 ([.int .i64 rk, .int .u64 (n64 rb), .slice ra rks.length rac, .slice rv rvs.length rvc]) 95
        have gg8 : GB u7 (u7.alloc (.cells #[.int .i64 rk, .int .u64 (n64 rb), .slice ra rks.length rac, .slice rv rvs.length rvc] 95)) := (Below.refl _ _).alloc (Nat.le_refl _) _
        change Blk (u7.alloc (.cells #[.int .i64 rk, .int .u64 (n64 rb), .slice ra rks.length rac, .slice rv rvs.length rvc] 95)) _ _ _ at hN8
        generalize u7.alloc (.cells #[.int .i64 rk, .int .u64 (n64 rb), .slice ra rks.length rac, .slice rv rvs.length rvc] 95) = u8 at *
        have hB8 := hB7.gb gg8
        have hb8 := bgb hbx7 gg8 hbx7.size
        have hrk8 := hrk7.below gg8
        have hrv8 := hrv7.below gg8
        refine L.load rfl Try.underlying37 info37 (by rfl) hB8 HX.out (by rfl) ?_
        simp only [Act.put, List.setIfInBounds_toArray, List.set_cons_zero, List.set_cons_succ]
        go_wp2_with fail
        refine (HRF.out _).mono ?_
        rintro e u9 ⟨sa, sac, sv, svc, rfl, hsk, hsv, hb9⟩
        have hN9 := hN8.gb hb9
        have hrk9 := hrk8.below hb9
        have hrv9 := hrv8.below hb9
        have hbw9 := bgb hb8 hb9 hb8.size
        simp only [nodeV]
        have hN10 := Blk.new u9 ([.int .i64 rk, .int .u64 (n64 rb), .slice sa rks.length sac, .slice sv rvs.length svc]) 95
        have gg10 : GB u9 (u9.alloc (.cells #[.int .i64 rk, .int .u64 (n64 rb), .slice sa rks.length sac, .slice sv rvs.length svc] 95)) := (Below.refl _ _).alloc (Nat.le_refl _) _
        change Blk (u9.alloc (.cells #[.int .i64 rk, .int .u64 (n64 rb), .slice sa rks.length sac, .slice sv rvs.length svc] 95)) _ _ _ at hN10
        have hsame := rsame_any rk rb ra rks rac rv rvs rvc rk rb sa rks sac sv rvs svc (u9.alloc (.cells #[.int .i64 rk, .int .u64 (n64 rb), .slice sa rks.length sac, .slice sv rvs.length svc] 95)) (by have := HLN.out.1; unfold maxLen; omega) (by have := HLN.out.2; unfold maxLen; omega) (hrk9.below gg10) (hrv9.below gg10) (hsk.below gg10) (hsv.below gg10)
        rw [sameN_refl] at hsame
        unfold nodeV at hsame
        have hN9' := hN9.gb gg10
        go_wp2_with (first | with_reducible refine halt_bin 38 ?_)
        generalize u9.alloc (.cells #[.int .i64 rk, .int .u64 (n64 rb), .slice sa rks.length sac, .slice sv rvs.length svc] 95) = u10 at *
        have hb10 := bgb hbw9 gg10 hbw9.size
        obtain ⟨p0, p1, p2, p3⟩ := hN9'.c4
        obtain ⟨q0, q1, q2, q3⟩ := hN10.c4
        refine L.go ?_
        go_wp2_with fail
        refine hsame.mono ?_
        rintro e u11 ⟨rfl, hb11⟩
        clear p0 p1 p2 p3 q0 q1 q2 q3
        go_wp2_with fail
        refine (known4_any _).mono ?_
        rintro e u12 ⟨rfl, hb12⟩
        go_wp2_with fail
        go_ret
        have hb111 := bgb hb10 hb11 hb10.size
        exact ⟨rfl, bgb hb111 hb12 hb111.size⟩
  · have hm' : mayN kind ks vs.length = false := by simpa using hm
    have hbk := HB.out _ hg3
    rw [if_neg hm, if_neg hm] at hbk
    rw [hm'] at HRM
    have hz := Lib.hid (zeros_length 256)
    clear hm hm' hnn
    refine hbk.mono ?_
    rintro e w4 ⟨rfl, hb4⟩
    have hbl4 := hbl3.gb hb4
    have hB4 := hB3.gb hb4
    have hg4 := bgb hg3 hb4 hg3.size
    clear hbk c0 c1 c2 c3 hbl3 hB3
    go_wp2_with (first | with_reducible refine halt_load 37 ?_ | with_reducible refine halt_bin 37 ?_ | with_reducible refine halt_build 37 ?_ | with_reducible refine halt_alloc 37 ?_ | with_reducible refine halt_store 37 ?_)
    refine L.alloc rfl zero37 (by rfl) ?_
    intro w5 hC5 hG5
    simp only [Act.put, List.setIfInBounds_toArray, List.set_cons_zero, List.set_cons_succ]
    go_wp2_with (first | with_reducible refine halt_load 37 ?_ | with_reducible refine halt_bin 37 ?_ | with_reducible refine halt_build 37 ?_ | with_reducible refine halt_alloc 37 ?_ | with_reducible refine halt_store 37 ?_)
    refine L.store rfl info37 (by rfl) (by rfl) hC5 (by rw [List.length_map]; exact hz.out) hz.out (by rfl) ?_
    intro w6 hC6 hG6
    simp only [Act.put]
    have f6 : Fr (fun _ => False) w4 w6 := (Fr.of_gb hG5).grown hG6 (fun j hj => .inr (by cases hj; omega))
    have hbl6 := f6.blk hbl4 (fun h => h)
    have hB6 := f6.blk hB4 (fun h => h)
    have hg6 : Below w.heap.size w w6 := hg4.trans (f6.below (B := w.heap.size) (fun _ _ h => h.elim) hg4.size)
    clear hC5 hG5 hG6 f6 hbl4 hB4 hg4 hb4
    obtain ⟨c0, c1, c2, c3⟩ := hbl6.c4
    go_wp2_with fail
    refine (HRM.out _ hg6).mono ?_
    rintro e w7 ⟨rfl, hb7⟩
    have hC7 := hC6.gb hb7
    have hBx := hB6.gb hb7
    have hbx := bgb hg6 hb7 hg6.size
    have hqz : (!(zeros 256 == zeros 256)) = false := by simp
    have HX := HL
    clear c0 c1 c2 c3 hC6 hB6 hg6 hbl6 hb7
    go_wp2_with (first | with_reducible refine halt_load 37 ?_ | with_reducible refine halt_bin 37 ?_ | with_reducible refine halt_build 37 ?_ | with_reducible refine halt_alloc 37 ?_ | with_reducible refine halt_store 37 ?_)
    refine L.load rfl Try.underlying37 info37 (by rfl) hC7 hz.out (by rfl) ?_
    simp only [Act.put, List.setIfInBounds_toArray, List.set_cons_zero, List.set_cons_succ]
    go_wp2_with (first | with_reducible refine halt_load 37 ?_ | with_reducible refine halt_bin 37 ?_ | with_reducible refine halt_build 37 ?_ | with_reducible refine halt_alloc 37 ?_ | with_reducible refine halt_store 37 ?_)
    refine L.val (by rfl) (X.build37 rfl) ?_
    simp only [Act.put, List.setIfInBounds_toArray, List.set_cons_zero, List.set_cons_succ]
    go_wp2_with (first | with_reducible refine halt_load 37 ?_ | with_reducible refine halt_bin 37 ?_ | with_reducible refine halt_build 37 ?_ | with_reducible refine halt_alloc 37 ?_ | with_reducible refine halt_store 37 ?_)
    refine L.neq rfl Try.underlying37 guard37 (by rfl) (by rfl) hz.out hz.out (by rfl) ?_
    simp only [Act.put, List.setIfInBounds_toArray, List.set_cons_zero, List.set_cons_succ]
    have hof := fun u => nof_any no B u HX.out
    have hrf := fun u => rnof_any no B u HX.out
    have hcd := ofN_code no B
    have hln := ofN_len no B
    generalize ofN no B = r at *
    obtain ⟨rk, rb, rks, rvs, rc⟩ := r
    have HOF := Lib.hid hof
    have HRF := Lib.hid hrf
    clear hof hrf
    dsimp only at hcd hln
    have HLN := Lib.hid hln
    clear hln
    rcases hcd with rfl | rfl
    all_goals
      go_wp2_with (first | with_reducible refine halt_load 37 ?_ | with_reducible refine halt_bin 37 ?_ | with_reducible refine halt_build 37 ?_ | with_reducible refine halt_alloc 37 ?_ | with_reducible refine halt_store 37 ?_)
      refine L.load rfl Try.underlying37 info37 (by rfl) hBx HX.out (by rfl) ?_
      simp only [Act.put, List.setIfInBounds_toArray, List.set_cons_zero, List.set_cons_succ]
      go_wp2_with fail
      refine (HOF.out _).mono ?_
      rintro e u7 ⟨ra, rac, rv, rvc, rfl, hrk7, hrv7, hb7⟩
      have hB7 := hBx.gb hb7
      have hbx7 := bgb hbx hb7 hbx.size
      simp only [nodeV]
      go_wp2_with (first | with_reducible refine halt_load 37 ?_ | with_reducible refine halt_bin 37 ?_ | with_reducible refine halt_build 37 ?_ | with_reducible refine halt_alloc 37 ?_ | with_reducible refine halt_store 37 ?_)
      have hN8 := Blk.new u7 ([.int .i64 rk, .int .u64 (n64 rb), .slice ra rks.length rac, .slice rv rvs.length rvc]) 95
      have gg8 : GB u7 (u7.alloc (.cells #[.int .i64 rk, .int .u64 (n64 rb), .slice ra rks.length rac, .slice rv rvs.length rvc] 95)) := (Below.refl _ _).alloc (Nat.le_refl _) _
      change Blk (u7.alloc (.cells #[.int .i64 rk, .int .u64 (n64 rb), .slice ra rks.length rac, .slice rv rvs.length rvc] 95)) _ _ _ at hN8
      generalize u7.alloc (.cells #[.int .i64 rk, .int .u64 (n64 rb), .slice ra rks.length rac, .slice rv rvs.length rvc] 95) = u8 at *
      have hB8 := hB7.gb gg8
      have hb8 := bgb hbx7 gg8 hbx7.size
      have hrk8 := hrk7.below gg8
      have hrv8 := hrv7.below gg8
      refine L.load rfl Try.underlying37 info37 (by rfl) hB8 HX.out (by rfl) ?_
      simp only [Act.put, List.setIfInBounds_toArray, List.set_cons_zero, List.set_cons_succ]
      go_wp2_with fail
      refine (HRF.out _).mono ?_
      rintro e u9 ⟨sa, sac, sv, svc, rfl, hsk, hsv, hb9⟩
      have hN9 := hN8.gb hb9
      have hrk9 := hrk8.below hb9
      have hrv9 := hrv8.below hb9
      have hbw9 := bgb hb8 hb9 hb8.size
      simp only [nodeV]
      have hN10 := Blk.new u9 ([.int .i64 rk, .int .u64 (n64 rb), .slice sa rks.length sac, .slice sv rvs.length svc]) 95
      have gg10 : GB u9 (u9.alloc (.cells #[.int .i64 rk, .int .u64 (n64 rb), .slice sa rks.length sac, .slice sv rvs.length svc] 95)) := (Below.refl _ _).alloc (Nat.le_refl _) _
      change Blk (u9.alloc (.cells #[.int .i64 rk, .int .u64 (n64 rb), .slice sa rks.length sac, .slice sv rvs.length svc] 95)) _ _ _ at hN10
      have hsame := rsame_any rk rb ra rks rac rv rvs rvc rk rb sa rks sac sv rvs svc (u9.alloc (.cells #[.int .i64 rk, .int .u64 (n64 rb), .slice sa rks.length sac, .slice sv rvs.length svc] 95)) (by have := HLN.out.1; unfold maxLen; omega) (by have := HLN.out.2; unfold maxLen; omega) (hrk9.below gg10) (hrv9.below gg10) (hsk.below gg10) (hsv.below gg10)
      rw [sameN_refl] at hsame
      unfold nodeV at hsame
      have hN9' := hN9.gb gg10
      go_wp2_with (first | with_reducible refine halt_bin 38 ?_)
      generalize u9.alloc (.cells #[.int .i64 rk, .int .u64 (n64 rb), .slice sa rks.length sac, .slice sv rvs.length svc] 95) = u10 at *
      have hb10 := bgb hbw9 gg10 hbw9.size
      obtain ⟨p0, p1, p2, p3⟩ := hN9'.c4
      obtain ⟨q0, q1, q2, q3⟩ := hN10.c4
      refine L.go ?_
      go_wp2_with fail
      refine hsame.mono ?_
      rintro e u11 ⟨rfl, hb11⟩
      clear p0 p1 p2 p3 q0 q1 q2 q3
      go_wp2_with fail
      refine (known4_any _).mono ?_
      rintro e u12 ⟨rfl, hb12⟩
      go_wp2_with fail
      go_ret
      have hb111 := bgb hb10 hb11 hb10.size
      exact ⟨rfl, bgb hb111 hb12 hb111.size⟩
end Go.Proofs.Ytiihllfjlgbfcaa
