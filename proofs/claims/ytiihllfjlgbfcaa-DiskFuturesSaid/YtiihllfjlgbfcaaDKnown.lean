/- The walk of voilelaw03.known, and of small. -/
import Derived.Test.YtiihllfjlgbfcaaDShows
namespace Go.Proofs.Ytiihllfjlgbfcaa
open Go.RowKit
theorem small_any (n : Int) (w : World) : Calls Try.prog 84 #[.int .i64 n] w fun e w' => e = .returned (.bool (decide (n ≤ 12) || decide (8192 < n))) ∧ w = w' := by
  obtain ⟨qA, hA⟩ : ∃ qA, decide (n ≤ 12) = qA := ⟨_, rfl⟩
  obtain ⟨qB, hB⟩ : ∃ qB, decide (8192 < n) = qB := ⟨_, rfl⟩
  rw [hA, hB]
  cases qA
  all_goals
    go_enter Try.func84, Try.ntmps84
    go_wp2_with fail
    go_ret
    exact ⟨rfl, rfl⟩
/-- A disk that the law made. -/
def Mine (w u : World) (p : Nat) (d : DD) : Prop := ∃ F, DiskAt u p d F ∧ (∀ k, F k → w.heap.size ≤ k) ∧ GB w u
theorem Fr.gbw {w u v : World} {F : Nat → Prop} (hg : GB w u) (hF : ∀ k, F k → w.heap.size ≤ k) (hf : Fr F u v) : GB w v := Below.trans hg (hf.below (B := w.heap.size) (fun k _ hk => hF k hk) (Below.size hg))
theorem Mine.step {w u v : World} {p : Nat} {d' : DD} {F : Nat → Prop} (hF : ∀ k, F k → w.heap.size ≤ k) (hg : GB w u) (hm : Moved p d' F u v) : Mine w v p d' := by
  obtain ⟨F', h1, h2, h3⟩ := hm
  refine ⟨F', h1, fun k hk => ?_, h2.gbw hg hF⟩
  have := Below.size hg
  rcases h3 k hk with h | h
  · exact hF k h
  · omega
theorem Mine.gb {w u v : World} {p : Nat} {d : DD} (h : Mine w u p d) (g : GB u v) : Mine w v p d := by
  obtain ⟨F, h1, h2, h3⟩ := h
  exact ⟨F, h1.gb g, h2, GB.trans _ _ _ h3 g⟩
theorem Inv.new (n : Nat) (h0 : 0 < n) (h1 : n ≤ 8192) : Inv 0 (DD.new n) (RD.new n) := .mk' (DD.new_good n h0 h1) (Agree.new n) (by simp [DD.new]) (by omega)
/-- One step more. -/
theorem Inv.go {k : Nat} {d : DD} {r : RD} (h : Inv k d r) (hk : k ≤ 9999) (x : Step) (hx : x.n ≤ 9223372036854775807) (code : Int) (r' : RD) (hr : r.do x = (code, r')) : ∃ d', d.do x = (code, d') ∧ Inv (k + 1) d' r' := by
  obtain ⟨h1, h2⟩ := step_inv h hk x hx
  rw [hr] at h1 h2
  exact ⟨(d.do x).2, by rw [← show (d.do x).1 = code from h1], h2⟩
set_option maxHeartbeats 4000000 in
set_option maxRecDepth 100000 in
theorem known3_any (w : World) : Calls Try.prog 50 #[] w fun e w' => e = .returned (.bool true) ∧ GB w w' := by
  have i0 := Inv.new 1 (by decide) (by decide)
  obtain ⟨d1, e1, i1⟩ := i0.go (by decide) ⟨1, 0, 120, []⟩ (by decide) 0 ⟨[[0, 120]], -1, false⟩ (by rfl)
  obtain ⟨d2, e2, i2⟩ := i1.go (by decide) ⟨2, 0, 0, []⟩ (by decide) 0 ⟨[[120]], -1, false⟩ (by rfl)
  obtain ⟨d3, e3, i3⟩ := i2.go (by decide) ⟨1, 0, 121, []⟩ (by decide) 0 ⟨[[120, 121]], -1, false⟩ (by rfl)
  obtain ⟨d4, e4, i4⟩ := i3.go (by decide) ⟨1, 0, 122, []⟩ (by decide) 0 ⟨[[120, 121, 122]], -1, false⟩ (by rfl)
  obtain ⟨d5, e5, i5⟩ := i4.go (by decide) ⟨4, 0, 0, [1]⟩ (by decide) 0 ⟨[[121]], -1, false⟩ (by rfl)
  have er := i5.read 0 (by decide)
  have f1 : (DD.new 1).write 0 (full 120) = (0, d1) := by rw [← e1]; simp [DD.do]
  have f2 : d1.flush = (0, d2) := by rw [← e2]; simp [DD.do]
  have f3 : d2.write 0 (full 121) = (0, d3) := by rw [← e3]; simp [DD.do]
  have f4 : d3.write 0 (full 122) = (0, d4) := by rw [← e4]; simp [DD.do]
  have f5 : d4.crash [1] = d5 := by have := e5; simp [DD.do] at this; exact this
  have fr : d5.read 0 = (full 121, 0) := er
  have HE1 := Lib.hid f1
  have HE2 := Lib.hid f2
  have HE3 := Lib.hid f3
  have HE4 := Lib.hid f4
  have HE5 := Lib.hid f5
  have HER := Lib.hid fr
  have HF : Hid (∀ (c : UInt8) (n : Int) (u : World), n8 c = n → Calls Try.prog 83 #[.int .u8 n] u fun e w' => e = .returned (arr (full c)) ∧ GB u w') := Lib.hid (fun c n u h => by rw [← h]; exact full_any c u)
  have I0 := Lib.hid i0
  have I1 := Lib.hid i1
  have I2 := Lib.hid i2
  have I3 := Lib.hid i3
  have I4 := Lib.hid i4
  have I5 := Lib.hid i5
  have hN := Lib.hid (new_any 1 w (by decide) (by decide))
  clear e1 e2 e3 e4 e5 f1 f2 f3 f4 f5 fr er i0 i1 i2 i3 i4 i5
  go_enter Try.func50, Try.ntmps50
  go_wp2_with fail
  refine (hN.out).mono ?_
  rintro e w1 ⟨g, F, rfl, hd, hb, hF⟩
  have M : Mine w w1 g (DD.new 1) := ⟨F, hd, hF, hb⟩
  clear hd hF hb F
  go_wp2_with fail
  refine (num_any 0 _).mono ?_
  rintro e v ⟨rfl, rfl⟩
  go_wp2_with fail
  refine (HF.out 120 _ _ (by rfl)).mono ?_
  rintro e v2 ⟨rfl, hbf⟩
  replace M := M.gb hbf
  clear hbf
  obtain ⟨F, hd, hF, hg⟩ := M
  have hwr := write_any g (DD.new 1) F 0 (full 120) _ hd I0.out.dg (full_length _) (by have := I0.out.jr; omega)
  rw [HE1.out] at hwr
  go_wp2_with fail
  refine hwr.mono ?_
  rintro e w2 ⟨rfl, hm⟩
  have M := Mine.step hF hg hm
  clear hwr hm hF hg hd F
  go_wp2_with fail
  refine (num_any 0 _).mono ?_
  rintro e v ⟨rfl, rfl⟩
  go_wp2_with fail
  obtain ⟨F, hd, hF, hg⟩ := M
  have hfl := flush_any g d1 F _ hd I1.out.dg
  rw [HE2.out] at hfl
  refine hfl.mono ?_
  rintro e w3 ⟨rfl, hm⟩
  have M := Mine.step hF hg hm
  clear hfl hm hF hg hd F
  go_wp2_with fail
  refine (num_any 0 _).mono ?_
  rintro e v ⟨rfl, rfl⟩
  go_wp2_with fail
  refine (HF.out 121 _ _ (by rfl)).mono ?_
  rintro e v4 ⟨rfl, hbf⟩
  replace M := M.gb hbf
  clear hbf
  obtain ⟨F, hd, hF, hg⟩ := M
  have hwr := write_any g d2 F 0 (full 121) _ hd I2.out.dg (full_length _) (by have := I2.out.jr; omega)
  rw [HE3.out] at hwr
  go_wp2_with fail
  refine hwr.mono ?_
  rintro e w4 ⟨rfl, hm⟩
  have M := Mine.step hF hg hm
  clear hwr hm hF hg hd F
  go_wp2_with fail
  refine (num_any 0 _).mono ?_
  rintro e v ⟨rfl, rfl⟩
  go_wp2_with fail
  refine (HF.out 122 _ _ (by rfl)).mono ?_
  rintro e v5 ⟨rfl, hbf⟩
  replace M := M.gb hbf
  clear hbf
  obtain ⟨F, hd, hF, hg⟩ := M
  have hwr := write_any g d3 F 0 (full 122) _ hd I3.out.dg (full_length _) (by have := I3.out.jr; omega)
  rw [HE4.out] at hwr
  go_wp2_with fail
  refine hwr.mono ?_
  rintro e w5 ⟨rfl, hm⟩
  have M := Mine.step hF hg hm
  clear hwr hm hF hg hd F
  go_wp2_with fail
  refine (num_any 0 _).mono ?_
  rintro e v ⟨rfl, rfl⟩
  have hB := Blk.new w5 [bI 1] 3
  have hba : GB w5 (w5.alloc (.cells #[.int .i64 1] 3)) := (Below.refl _ _).alloc (Nat.le_refl _) _
  change Blk (w5.alloc (.cells #[.int .i64 1] 3)) _ _ _ at hB
  go_wp2_with fail
  obtain ⟨F, hd, hF, hg⟩ := M.gb hba
  have hcr := crash_any g d4 F (some ⟨w5.heap.size, 0, none⟩) [1] 1 _ hd I4.out.dg (by have := I4.out.jr; omega) (by simpa using hB.rd 0)
  rw [HE5.out] at hcr
  refine hcr.mono ?_
  rintro e w6 ⟨rfl, hm⟩
  have M := Mine.step hF hg hm
  clear hcr hm hF hg hd F hB hba
  go_wp2_with fail
  refine (num_any 0 _).mono ?_
  rintro e v ⟨rfl, rfl⟩
  go_wp2_with fail
  obtain ⟨F, hd, hF, hg⟩ := M
  have hrd := read_any g d5 F 0 _ hd I5.out.dg
  rw [HER.out] at hrd
  refine hrd.mono ?_
  rintro e w7 ⟨rfl, hb7⟩
  have hg7 := GB.trans _ _ _ hg hb7
  clear hrd hF hd F hg hb7
  simp only
  have HFL := Lib.hid (full_length 121)
  have hz := Lib.hid (zeros_length 64)
  go_wp2_with (first | with_reducible refine halt_alloc 59 ?_ | with_reducible refine halt_store 59 ?_)
  refine L.alloc rfl zero59 (by rfl) ?_
  intro w8 hA8 hG8
  simp only [Act.put, List.setIfInBounds_toArray, List.set_cons_zero, List.set_cons_succ]
  go_wp2_with (first | with_reducible refine halt_alloc 59 ?_ | with_reducible refine halt_store 59 ?_)
  refine L.store rfl info59 (by rfl) (by rfl) hA8 (by rw [List.length_map]; exact hz.out) HFL.out (by rfl) ?_
  intro w9 hA9 hG9
  simp only [Act.put]
  have hb8 := GB.trans _ _ _ hg7 hG8
  have hb9 : GB w w9 := Below.grown hb8 hG9 hb8.size (fun j hj => by rw [← Option.some.inj hj]; exact hg7.size)
  have hFu := fun u => HF.out 121 121 u (by rfl)
  have HFU := Lib.hid hFu
  clear hFu hA8 hG9 HF
  have hqx : (full 121 == full 121) = true := by simp
  have hA9d := Blk.gb hA9 (GB.drew w9)
  generalize full 121 = X1 at *
  go_upto_region 5 with fail
  refine region_gb [(0,0),(1,1),(2,0),(3,0),(4,0),(5,1),(6,0),(7,0),(8,0)] [] (by kernel_rfl) ?_
  refine S0 (by rfl) (by rfl) (fun u hu => X.load rfl (by rfl) Try.underlying59 info59 (hA9d.gb hu) HFL.out) ?_
  simp only [Act.put, List.setIfInBounds_toArray, List.set_cons_zero, List.set_cons_succ]
  refine S1 (by rfl) (by rfl) (fun K hK => ?_)
  go_wp2_with fail
  refine (HFU.out _).mono ?_
  rintro e w10 ⟨rfl, hb10⟩
  refine hK _ _ hb10 ?_
  clear hK K
  refine S0 (by rfl) (by rfl) (fun u hu => X.eql rfl (by rfl) (by rfl) Try.underlying59 guard59 HFL.out HFL.out) ?_
  simp only [Act.put, List.setIfInBounds_toArray, List.set_cons_zero, List.set_cons_succ]
  rw [hqx]
  iterate 2 (refine S0w (v := ?_) (by rfl) (by rfl) (fun u hu N hN => ?_) ?_; rotate_left; (go_simp; exact hN); simp only [Act.put, List.setIfInBounds_toArray, List.set_cons_zero, List.set_cons_succ])
  refine S1 (by rfl) (by rfl) (fun K hK => ?_)
  go_wp2_with fail
  refine (num_any 0 _).mono ?_
  rintro e w11 ⟨rfl, rfl⟩
  refine hK _ _ (GB.refl _) ?_
  clear hK K
  repeat (refine S0w (v := ?_) (by rfl) (by rfl) (fun u hu N hN => ?_) ?_; rotate_left; (go_simp; exact hN); simp only [Act.put, List.setIfInBounds_toArray, List.set_cons_zero, List.set_cons_succ])
  refine S.done ?_
  go_wp2_with fail
  go_ret
  exact ⟨rfl, GB.trans _ _ _ hb9 (GB.trans _ _ _ (GB.drew w9) hb10)⟩
end Go.Proofs.Ytiihllfjlgbfcaa
