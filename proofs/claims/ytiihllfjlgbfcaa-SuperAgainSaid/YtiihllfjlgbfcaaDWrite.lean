/- The walk of a disk's Write. -/
import Derived.Test.YtiihllfjlgbfcaaBuild
import Derived.Deep.CutBlock
import Derived.Deep.DeepCutAuto
namespace Go.Proofs.Ytiihllfjlgbfcaa
open Go.RowKit
theorem wp_skip {P : Program} {o : Oper} {a : Act} {w w' : World} {K : Act → World → Prop} {Q : Exit → Act → World → Prop}
    (hr : (execOp a.eval o).run P w = .ok .skip w') (h : K (a.put o.dst undef) w') : o.wp P a w K Q := by
  unfold Oper.wp; rw [hr]; exact h
/-- What a written sector turns a disk into, where a step was left. -/
def DD.put (d : DD) (k : Nat) (s : List UInt8) : DD := { d with jr := d.jr ++ [(k, d.img.getD k [])], img := d.img.set k s }
def DD.write (d : DD) (i : Int) (s : List UInt8) : Int × DD := if d.has i = 0 then (if d.step.1 = 0 then (0, d.step.2.put i.toNat s) else d.step) else (2, d)
theorem DD.step_img (d : DD) : d.step.2.img = d.img ∧ d.step.2.jr = d.jr := by unfold DD.step; split <;> exact ⟨rfl, rfl⟩
theorem entV_oneCell (x : Nat × List UInt8) : ∀ u ∈ entV x, u.oneCell' = true := by
  intro u hu
  simp only [entV, List.mem_cons] at hu
  rcases hu with rfl | hu
  · rfl
  · exact b8_oneCell _ u hu
set_option maxHeartbeats 4000000 in
set_option maxRecDepth 100000 in
theorem write_any (p : Nat) (d : DD) (F : Nat → Prop) (i : Int) (s : List UInt8) (w : World) (h : DiskAt w p d F) (hg : DGood d) (hs : s.length = 64) (hj : d.jr.length ≤ 1000000000) :
    Calls Try.prog 43 #[.pointer (some ⟨p, 0, none⟩), .int .i64 i, arr s] w fun e w' => e = .returned (.int .i64 (d.write i s).1) ∧ Moved p (d.write i s).2 F w w' := by
  have hsm := hg.some
  have HS := Lib.hid hs
  have hh := fun w1 (hG : GB w w1) => has_any p d F i w1 (h.gb hG) hsm
  have hst := fun w1 (hG : GB w w1) => step_any p d F w1 (h.gb hG) hg.lo hg.hi
  have hF : ∀ k, F k → k < w.heap.size := by obtain ⟨y, hy⟩ := h; exact hy.bnd
  have HC := Lib.hid (step_code d)
  have HI := Lib.hid (DD.step_img d)
  have hcode : d.has i = 0 ∨ d.has i = 2 := by unfold DD.has; split <;> simp
  have hin : d.has i = 0 → 0 ≤ i ∧ i < d.img.length := by unfold DD.has; split <;> intro h <;> first | (exact absurd h (by decide)) | omega
  have hw : d.write i s = if d.has i = 0 then (if d.step.1 = 0 then (0, d.step.2.put i.toNat s) else d.step) else (2, d) := rfl
  generalize d.write i s = wr at *
  generalize d.step = st at *
  obtain ⟨code, d2⟩ := st
  generalize d.has i = hc at *
  have HT := Lib.hid hst
  have HG := Lib.hid hg
  have hF1 : ∀ w1, GB w w1 → ∀ k, F k → k < w1.heap.size := fun w1 hG k hk => Nat.lt_of_lt_of_le (hF k hk) hG.size
  clear hst hs hg
  rcases hcode with h0 | h0
  · obtain ⟨hi0, hi1⟩ := hin h0
    rw [if_pos h0] at hw
    subst h0
    have HH := Lib.hid hh
    clear hh hin
    rcases HC.out with h0 | h0
    · rw [if_pos h0] at hw
      simp only at h0
      subst h0
      obtain ⟨k, rfl⟩ : ∃ k : Nat, i = k := ⟨i.toNat, by omega⟩
      obtain ⟨himg, hjr⟩ := HI.out
      simp only [] at himg hjr
      have hk : k < d2.img.length := by rw [himg]; omega
      have h64 : All64 d2.img := by rw [himg]; exact HG.out.sec
      have hget : d2.img.getD k [] = d2.img[k] := by simp [List.getD, hk]
      have hsl := h64.at k hk
      have hat := s8_at h64 k hk
      have hlen := secs_length h64
      have hjl : d2.jr.length ≤ 1000000000 := by rw [hjr]; exact hj
      have hset : ∀ sp, put (secs d2.img ++ sp) (k * 64) (s.map b8) = secs (d2.img.set k s) ++ sp := fun sp => by
        rw [put_app _ _ _ _ (by rw [List.length_map, HS.out, secs_length h64]; omega)]
        rw [show secs (d2.img.set k s) = (d2.img.set k s).flatMap s8 from rfl, ← fm_set h64 k hk s (by rw [s8_length]; exact HS.out)]
        rfl
      have hput : d2.put k s = { d2 with jr := d2.jr ++ [(k, d2.img[k])], img := d2.img.set k s } := by unfold DD.put; rw [hget]
      rw [show ((k : Int)).toNat = k by simp, hput] at hw
      subst hw
      generalize d2.img[k] = s0 at *
      have HSL := Lib.hid hsl
      have HAT := Lib.hid hat
      have HST := Lib.hid hset
      have HL := Lib.hid hlen
      clear hsl hat hset himg hjr hget hput HI HC hlen
      go_enter Try.func43, Try.ntmps43
      go_wp2_with (first | with_reducible refine halt_box 59 ?_)
      refine L.box rfl (by rfl) (by rfl) ?_
      intro w1 hA hG
      simp only [Act.put, List.setIfInBounds_toArray, List.set_cons_zero, List.set_cons_succ]
      go_wp2_with fail
      refine (HH.out _ hG).mono ?_
      rintro e w2 ⟨rfl, rfl⟩
      go_wp2_with fail
      refine (HT.out _ hG).mono ?_
      rintro e w2 ⟨rfl, F', ⟨⟨gi, cap, vj, spare⟩, hd⟩, hf, hsub⟩
      have hA2 := hf.blk hA (fun h => by have := hF _ h; omega)
      have hbox : ¬ F' w.heap.size := fun h => by
        have h1 := hA.lt
        rcases hsub _ h with h' | h'
        · have := hF _ h'; omega
        · omega
      have hF1' := hF1 w1 hG
      have hgs := hG.size
      have hva := hd.jr
      simp only at hva
      obtain ⟨va, vc, rfl, -, -, -, -, -⟩ := Row.shape hva
      clear hva
      go_upto_region 6 with fail
      have hdd := hd.gb (GB.drew w2)
      have hdis1 : (Value.slice va d2.jr.length vc).ownBlock ≠ some p := hd.dis.2.1
      have hdis2 : (Value.slice va d2.jr.length vc).ownBlock ≠ some gi := hd.dis.2.2
      have hle : k * 64 + 64 ≤ (secs d2.img ++ spare).length := by rw [List.length_append, HL.out]; omega
      have C0 : ∀ u, Fr (fun k => (Value.slice va d2.jr.length vc).ownBlock = some k) w2.drew u → u.cell? ⟨p, 0, none⟩ = some (.slice (some ⟨gi, 0, none⟩) d2.img.length cap) := fun u hu => (hu.blk hdd.blk hdis1).cell 0
      have C1 : ∀ u, Fr (fun k => (Value.slice va d2.jr.length vc).ownBlock = some k) w2.drew u → u.cell? ⟨p, 1, none⟩ = some (.slice va d2.jr.length vc) := fun u hu => (hu.blk hdd.blk hdis1).cell 1
      refine region_fr (F := fun k => (Value.slice va d2.jr.length vc).ownBlock = some k) [(0,0),(1,0),(2,0),(3,0),(4,0),(5,0),(6,0),(7,0),(8,0),(9,0),(10,0),(11,0),(12,0),(13,0),(14,1),(15,1),(16,0),(17,0),(18,2)] [18] (by kernel_rfl) ?_
      iterate 12 (refine S0w (v := ?_) (by rfl) (by rfl) (fun u hu N hN => ?_) ?_; rotate_left; (go_simp; exact hN); simp only [Act.put, List.setIfInBounds_toArray, List.set_cons_zero, List.set_cons_succ])
      refine S0 (by rfl) (by rfl) (fun u hu => X.loadAt rfl (by rfl) Try.underlying59 info59 (hu.blk hdd.img hdis2) (HAT.out _) hle) ?_
      simp only [Act.put, List.setIfInBounds_toArray, List.set_cons_zero, List.set_cons_succ]
      refine S0 (by rfl) (by rfl) (fun u hu => X.build151 rfl (by rfl) (by rfl) HSL.out) ?_
      simp only [Act.put, List.setIfInBounds_toArray, List.set_cons_zero, List.set_cons_succ]
      refine S1 (by rfl) (by rfl) (fun K hK => ?_)
      refine wp_run (X.slice1 (v := .agg (.int .i64 (k : Int) :: s0.map b8).toArray) elem151 (by decide) rfl (by rfl) (by simp [Value.cells, HSL.out])) ?_
      refine hK _ _ (Fr.of_gb ((Below.refl _ _).alloc (Nat.le_refl _) _)) ?_
      clear hK K
      have gA : GB w2 (w2.drew.alloc (.cells (Value.agg (.int .i64 (k : Int) :: s0.map b8).toArray).cells 151)) := (Fr.below (F := fun _ => False) ((Fr.refl _ w2).drew.alloc _) (fun _ _ h => h.elim) (Nat.le_refl _))
      have hsr : Rd (w2.drew.alloc (.cells (Value.agg (.int .i64 (k : Int) :: s0.map b8).toArray).cells 151)) (some ⟨w2.heap.size, 0, none⟩) (.int .i64 (k : Int) :: s0.map b8) := Rd.alloc_new w2.drew (.int .i64 (k : Int) :: s0.map b8) 151
      have hs3 : w2.heap.size < (w2.drew.alloc (.cells (Value.agg (.int .i64 (k : Int) :: s0.map b8).toArray).cells 151)).heap.size := by simp
      simp only [Act.put, List.setIfInBounds_toArray, List.set_cons_zero, List.set_cons_succ]
      change runS _ _ _ _ _ { tmps := _, defers := _ } _
      generalize w2.drew.alloc (.cells (Value.agg (.int .i64 (k : Int) :: s0.map b8).toArray).cells 151) = w3 at *
      have hd3 := hd.gb gA
      have hA3 := hA2.gb gA
      have hjr3 := hd3.jr
      have hvl := hjr3.lt
      clear C0 C1
      refine S1 (by rfl) (by rfl) (fun K hK => ?_)
      refine wp_appendW elem151 (.tmp 23) (.tmp 33) rfl (by rfl) hjr3 (by rfl) (by simp [HSL.out]) hsr (entV_oneCell (k, s0)) (by omega) (Nat.zero_le _) (fun v4 w4 hv4 hG4 hf4 => hK _ _ (Fr.of_grown hG4 (fun j hj => hj)) ?_)
      clear hK K
      have hv4l := hv4.lt
      have hne4 : ∀ j, v4.ownBlock = some j → j ≠ p ∧ j ≠ gi ∧ j < w4.heap.size := fun j hj => by
        have h1 := (hv4l j hj).2
        rcases hf4 j hj with h | h
        · exact ⟨fun e => hdis1 (by rw [← e]; exact h), fun e => hdis2 (by rw [← e]; exact h), h1⟩
        · have h2 := hd3.bnd p hd3.cov.1
          have h3 := hd3.bnd gi hd3.cov.2.1
          exact ⟨by omega, by omega, h1⟩
      have f4 : Fr F' w3 w4 := Fr.of_grown hG4 (fun j hj => hd3.cov.2.2 j hj)
      have hb4 := hd3.blk.grown hG4 (fun e => hdis1 e.symm)
      have hi4 := hd3.img.grown hG4 (fun e => hdis2 e.symm)
      have hA4 := hA3.grown hG4 (fun e => hbox (hd3.cov.2.2 _ e.symm))
      obtain ⟨v4a, v4c, rfl, -, -, -, -, -⟩ := Row.shape hv4
      have c1 := hb4.cell 1
      have nf := fun j => hb4.frozen j
      have hents : ents d2.jr ++ (.int .i64 (k : Int) :: s0.map b8) = ents (d2.jr ++ [(k, s0)]) := by rw [ents_append]; simp [ents, entV]
      have hv4' : w4.ownsRow 0 151 65 (.slice v4a (d2.jr.length + 1) v4c) (d2.jr ++ [(k, s0)]).length (ents (d2.jr ++ [(k, s0)])) := by
        rw [← hents, List.length_append]; exact hv4
      have HE := Lib.hid hents
      clear hents hd3 hjr3 hvl hv4l hsr hv4
      simp only [Act.put, List.setIfInBounds_toArray, List.set_cons_zero, List.set_cons_succ]
      iterate 2 (refine S0w (v := ?_) (by rfl) (by rfl) (fun u hu N hN => ?_) ?_; rotate_left; (go_simp; exact hN); simp only [Act.put, List.setIfInBounds_toArray, List.set_cons_zero, List.set_cons_succ])
      refine S2 (by rfl) (by rfl) (fun K hK => ?_)
      go_wp2_with fail
      refine S.done ?_
      have hb5 := hb4.set 1 (.slice v4a (d2.jr.length + 1) v4c)
      have f5 := (Fr.refl (· = p) w4).setCell p 1 (.slice v4a (d2.jr.length + 1) v4c) (.inl rfl)
      have hi5 := f5.blk hi4 hd.dis.1
      have hA5 := f5.blk hA4 (fun e => hbox (by rw [e]; exact hd.cov.1))
      have hv5 := f5.row hv4' (fun j hj => (hne4 j hj).1)
      generalize w4.setCell ⟨p, 1, none⟩ (.slice v4a (d2.jr.length + 1) v4c) = w5 at *
      have g15 : Fr F' w2 w5 := ((Fr.of_gb gA).trans f4).trans (f5.mono (fun j _ hj => by rw [hj]; exact hd.cov.1))
      change Blk w5 p 52 [.slice (some ⟨gi, 0, none⟩) d2.img.length cap, .slice v4a (d2.jr.length + 1) v4c, .int .i64 d2.left, .bool d2.dead] at hb5
      have hs5 := f5.size
      have hcap := hd.cap
      have hcov := hd.cov
      have hgp := hd.dis.1
      have hbnd := hd.bnd
      have hsz : w2.heap.size ≤ w5.heap.size := g15.size
      clear c1 nf hb4 hi4 hA4 hv4' hA2 hA3 hd hdd f4 f5 hG4 gA
      go_upto_region 7 with fail
      have hb5d := Blk.gb hb5 (GB.drew w5)
      have hi5d := Blk.gb hi5 (GB.drew w5)
      have hA5d := Blk.gb hA5 (GB.drew w5)
      have hv5d := Row.gb hv5 (GB.drew w5)
      have C0 : ∀ u, GB w5.drew u → u.cell? ⟨p, 0, none⟩ = some (.slice (some ⟨gi, 0, none⟩) d2.img.length cap) := fun u hu => (hb5d.gb hu).cell 0
      refine region_gb [(0,0),(1,0),(2,0),(3,0),(4,0),(5,0),(6,0),(7,2)] [7] (by kernel_rfl) ?_
      iterate 5 (refine S0w (v := ?_) (by rfl) (by rfl) (fun u hu N hN => ?_) ?_; rotate_left; (go_simp; exact hN); simp only [Act.put, List.setIfInBounds_toArray, List.set_cons_zero, List.set_cons_succ])
      refine S0 (by rfl) (by rfl) (fun u hu => X.load rfl (by rfl) Try.underlying59 info59 (hA5d.gb hu) HS.out) ?_
      simp only [Act.put, List.setIfInBounds_toArray, List.set_cons_zero, List.set_cons_succ]
      iterate 1 (refine S0w (v := ?_) (by rfl) (by rfl) (fun u hu N hN => ?_) ?_; rotate_left; (go_simp; exact hN); simp only [Act.put, List.setIfInBounds_toArray, List.set_cons_zero, List.set_cons_succ])
      refine S2 (by rfl) (by rfl) (fun K hK => ?_)
      refine wp_skip (X.store (off := k * 64) (l := s) rfl (by rfl) (by rfl) info59 hi5d HS.out hle) (hK _ _ ?_)
      refine S.done ?_
      have hi6 := hi5d.row (put (secs d2.img ++ spare) (k * 64) (s.map b8))
      have hG6 := grown_row w5.drew gi (put (secs d2.img ++ spare) (k * 64) (s.map b8)).toArray
      have f6 : Fr (· = gi) w5 (w5.drew.setRow gi (put (secs d2.img ++ spare) (k * 64) (s.map b8)).toArray) := (Fr.of_gb (GB.drew w5)).trans (Fr.of_grown hG6 (fun j hj => by cases hj; rfl))
      have hb6 := f6.blk hb5 (fun e => hgp e.symm)
      have hv6 := f6.row hv5 (fun j hj => (hne4 j hj).2.1)
      have hlen : (d2.img.set k s).length = d2.img.length := List.length_set
      generalize w5.drew.setRow gi (put (secs d2.img ++ spare) (k * 64) (s.map b8)).toArray = w6 at *
      rw [HST.out] at hi6
      have fin : Moved p { d2 with jr := d2.jr ++ [(k, s0)], img := d2.img.set k s } F w w6 := by
        refine ⟨fun j => F' j ∨ (Value.slice v4a (d2.jr.length + 1) v4c).ownBlock = some j, ⟨⟨gi, cap, .slice v4a (d2.jr.length + 1) v4c, spare⟩, ?_, hi6, ?_, hv6, ⟨hgp, fun e => (hne4 _ e).1 rfl, fun e => (hne4 _ e).2.1 rfl⟩, ⟨.inl hcov.1, .inl hcov.2.1, fun j hj => .inr hj⟩, fun j hj => ?_⟩, ?_, fun j hj => ?_⟩
        · show Blk w6 p 52 [.slice (some ⟨gi, 0, none⟩) (d2.img.set k s).length cap, .slice v4a (d2.jr.length + 1) v4c, .int .i64 d2.left, .bool d2.dead]
          rw [hlen]; exact hb6
        · show (d2.img.set k s).length ≤ cap ∧ cap ≤ maxLen
          rw [hlen]; exact hcap
        · have h6 := f6.size
          rcases hj with h | h
          · have := hbnd j h; omega
          · have := (hne4 j h).2.2; omega
        · exact ((Fr.of_gb hG).trans hf).chain (F' := F') (fun j hj => by
            rcases hsub j hj with h | h
            · exact .inl h
            · exact .inr (by omega)) (g15.trans (f6.mono (fun j _ hj => by rw [hj]; exact hcov.2.1)))
        · have key : ∀ j, F' j → F j ∨ w.heap.size ≤ j := fun j hj => by
            rcases hsub j hj with h | h
            · exact .inl h
            · exact .inr (by omega)
          rcases hj with h | h
          · exact key j h
          · rcases hf4 j h with h' | h'
            · exact key j (hcov.2.2 j h')
            · exact .inr (by have := hf.size; omega)
      simp only [Act.put]
      go_wp2_with fail
      go_ret
      exact ⟨rfl, fin⟩
    · rw [if_neg (by rw [h0]; decide)] at hw
      simp only at h0
      subst h0
      subst hw
      go_enter Try.func43, Try.ntmps43
      go_wp2_with (first | with_reducible refine halt_box 59 ?_)
      refine L.box rfl (by rfl) (by rfl) ?_
      intro w1 hA hG
      simp only [Act.put, List.setIfInBounds_toArray, List.set_cons_zero, List.set_cons_succ]
      go_wp2_with fail
      refine (HH.out _ hG).mono ?_
      rintro e w2 ⟨rfl, rfl⟩
      go_wp2_with fail
      refine (HT.out _ hG).mono ?_
      rintro e w2 ⟨rfl, hm⟩
      have fin : Moved p d2 F w w2 := Moved.chain (Fr.of_gb hG) (fun j hj => .inl hj) hm
      go_wp2_with fail
      go_ret
      exact ⟨rfl, fin⟩
  · rw [if_neg (by rw [h0]; decide)] at hw
    subst h0
    subst hw
    have HH := Lib.hid hh
    clear hh hin
    go_enter Try.func43, Try.ntmps43
    go_wp2_with (first | with_reducible refine halt_box 59 ?_)
    refine L.box rfl (by rfl) (by rfl) ?_
    intro w1 hA hG
    simp only [Act.put, List.setIfInBounds_toArray, List.set_cons_zero, List.set_cons_succ]
    go_wp2_with fail
    refine (HH.out _ hG).mono ?_
    rintro e w2 ⟨rfl, rfl⟩
    have fin : Moved p d F w w1 := ⟨F, h.gb hG, Fr.of_gb hG, fun j hj => .inl hj⟩
    go_wp2_with fail
    go_ret
    exact ⟨rfl, fin⟩
end Go.Proofs.Ytiihllfjlgbfcaa
