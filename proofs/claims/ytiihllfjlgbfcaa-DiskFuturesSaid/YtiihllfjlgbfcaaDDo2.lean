/- The walk of the law's do: a step of the program's disk. -/
import Derived.Test.YtiihllfjlgbfcaaDDo
namespace Go.Proofs.Ytiihllfjlgbfcaa
open Go.RowKit
set_option linter.unusedVariables false
def DD.do (d : DD) (x : Step) : Int × DD :=
  if x.kind = 1 then d.write x.n (full x.fill)
  else if x.kind = 2 then d.flush
  else if x.kind = 3 then d.fuse x.n
  else if x.kind = 4 then (0, d.crash x.picks)
  else if x.kind = 5 then d.grow x.n
  else if x.kind = 6 then ((d.read x.n).2, d)
  else (0, d)
def DDoPost (p : Nat) (d : DD) (x : Step) (F : Nat → Prop) (w : World) (e : Ending) (w' : World) : Prop := e = .returned (.int .i64 (d.do x).1) ∧ Moved p (d.do x).2 F w w'
theorem DDoPost.mk {p : Nat} {d : DD} {x : Step} {F : Nat → Prop} {w w' : World} {e : Ending} {code : Int} {d' : DD} (h : Hid (d.do x = (code, d'))) (he : e = .returned (.int .i64 code)) (hm : Moved p d' F w w') : DDoPost p d x F w e w' := by
  unfold DDoPost; rw [h.out]; exact ⟨he, hm⟩
theorem Moved.of_gb {p : Nat} {d : DD} {F : Nat → Prop} {w u : World} (h : DiskAt w p d F) (g : GB w u) : Moved p d F w u := ⟨F, h.gb g, Fr.of_gb g, fun _ hk => .inl hk⟩
theorem Moved.after {p : Nat} {d : DD} {F : Nat → Prop} {w u v : World} (g : GB w u) (h : Moved p d F u v) : Moved p d F w v := Moved.chain (F' := F) (Fr.of_gb g) (fun _ hk => .inl hk) h
theorem Moved.gb {p : Nat} {d : DD} {F : Nat → Prop} {w u v : World} (h : Moved p d F w u) (g : GB u v) : Moved p d F w v := by
  obtain ⟨F', h1, h2, h3⟩ := h
  exact ⟨F', h1.gb g, h2.gb g, h3⟩
set_option maxHeartbeats 4000000 in
set_option maxRecDepth 100000 in
theorem ddo1_any (p : Nat) (d : DD) (F : Nat → Prop) (n : Int) (c : UInt8) (pa : Option Addr) (ps : List Int) (pc : Nat) (w : World) (h : DiskAt w p d F) (hg : DGood d) (hj : d.jr.length ≤ 1000000) :
    Calls Try.prog 82 #[.pointer (some ⟨p, 0, none⟩), .agg #[.int .i64 1, .int .i64 n, .int .u8 (n8 c), .slice pa ps.length pc]] w (DDoPost p d ⟨1, n, c, ps⟩ F w) := by
  have gA : GB w (w.alloc (.cells #[.int .i64 1, .int .i64 n, .int .u8 (n8 c), .slice pa ps.length pc] 122)) := (Below.refl _ _).alloc (Nat.le_refl _) _
  have hX := Blk.new w [.int .i64 1, .int .i64 n, .int .u8 (n8 c), .slice pa ps.length pc] 122
  change Blk (w.alloc (.cells #[.int .i64 1, .int .i64 n, .int .u8 (n8 c), .slice pa ps.length pc] 122)) _ _ _ at hX
  have h1 := h.gb gA
  go_enter Try.func82, Try.ntmps82
  go_upto_region 1 with fail
  generalize w.alloc (.cells #[.int .i64 1, .int .i64 n, .int .u8 (n8 c), .slice pa ps.length pc] 122) = w1 at *
  have x0 := hX.cell 0
  have x1 := hX.cell 1
  have x2 := hX.cell 2
  have x3 := hX.cell 3
  have hf := fun u (hu : GB w1 u) => full_any c u
  have hwr := fun u (hu : GB w1 u) => write_any p d F n (full c) u (h1.gb hu) hg (full_length c) (by omega)
  have HD : Hid (d.do ⟨1, n, c, ps⟩ = d.write n (full c)) := Lib.hid (by simp [DD.do])
  generalize d.write n (full c) = res at *
  generalize full c = s at *
  obtain ⟨code, d2⟩ := res
  have HF := Lib.hid hf
  have HW := Lib.hid hwr
  clear hf hwr
  go_upto_region 3 with fail
  have C1 : ∀ u, GB w1.drew u → u.cell? ⟨w.heap.size, 1, none⟩ = some (.int .i64 n) := fun u hu => ((hX.gb (GB.drew w1)).gb hu).cell 1
  have C2 : ∀ u, GB w1.drew u → u.cell? ⟨w.heap.size, 2, none⟩ = some (.int .u8 (n8 c)) := fun u hu => ((hX.gb (GB.drew w1)).gb hu).cell 2
  refine region_gb [(0,0),(1,0),(2,0),(3,0),(4,0),(5,1),(6,2),(7,2),(8,2)] [6,7,8] (by kernel_rfl) ?_
  iterate 5 (refine S0w (v := ?_) (by rfl) (by rfl) (fun u hu N hN => ?_) ?_; rotate_left; (go_simp; exact hN); simp only [Act.put, List.setIfInBounds_toArray, List.set_cons_zero, List.set_cons_succ])
  refine S1 (by rfl) (by rfl) (fun K hK => ?_)
  go_wp2_with fail
  refine (HF.out _ (GB.drew w1)).mono ?_
  rintro e w2 ⟨rfl, hb2⟩
  refine hK _ _ hb2 ?_
  clear hK K
  have hb3 := GB.trans _ _ _ (GB.drew w1) hb2
  refine S2 (by rfl) (by rfl) (fun K hK => ?_)
  go_wp2_with fail
  refine (HW.out w2 hb3).mono ?_
  rintro e w3 ⟨rfl, hm⟩
  refine hK _ _ ?_
  clear hK K
  refine S2 (by rfl) (by rfl) (fun K hK => ?_)
  go_wp2_with fail
  refine (num_any code w3).mono ?_
  rintro e w4 ⟨rfl, rfl⟩
  refine hK _ _ ?_
  clear hK K
  refine S2 (by rfl) (by rfl) (fun K hK => ?_)
  go_wp2_with fail
  refine S.done ?_
  go_wp2_with fail
  go_ret
  exact DDoPost.mk HD rfl (hm.after (GB.trans _ _ _ gA hb3))
set_option maxHeartbeats 4000000 in
set_option maxRecDepth 100000 in
theorem ddo2_any (p : Nat) (d : DD) (F : Nat → Prop) (n : Int) (c : UInt8) (pa : Option Addr) (ps : List Int) (pc : Nat) (w : World) (h : DiskAt w p d F) (hg : DGood d) (hj : d.jr.length ≤ 1000000) :
    Calls Try.prog 82 #[.pointer (some ⟨p, 0, none⟩), .agg #[.int .i64 2, .int .i64 n, .int .u8 (n8 c), .slice pa ps.length pc]] w (DDoPost p d ⟨2, n, c, ps⟩ F w) := by
  have gA : GB w (w.alloc (.cells #[.int .i64 2, .int .i64 n, .int .u8 (n8 c), .slice pa ps.length pc] 122)) := (Below.refl _ _).alloc (Nat.le_refl _) _
  have hX := Blk.new w [.int .i64 2, .int .i64 n, .int .u8 (n8 c), .slice pa ps.length pc] 122
  change Blk (w.alloc (.cells #[.int .i64 2, .int .i64 n, .int .u8 (n8 c), .slice pa ps.length pc] 122)) _ _ _ at hX
  have h1 := h.gb gA
  go_enter Try.func82, Try.ntmps82
  go_upto_region 1 with fail
  generalize w.alloc (.cells #[.int .i64 2, .int .i64 n, .int .u8 (n8 c), .slice pa ps.length pc] 122) = w1 at *
  have x0 := hX.cell 0
  have x1 := hX.cell 1
  have x2 := hX.cell 2
  have x3 := hX.cell 3
  have hc := flush_any p d F w1 h1 hg
  have HD : Hid (d.do ⟨2, n, c, ps⟩ = d.flush) := Lib.hid (by simp [DD.do])
  generalize d.flush = res at *
  obtain ⟨code, d2⟩ := res
  go_wp2_with fail
  refine hc.mono ?_
  rintro e w2 ⟨rfl, hm⟩
  go_wp2_with fail
  refine (num_any code w2).mono ?_
  rintro e w3 ⟨rfl, rfl⟩
  go_wp2_with fail
  go_ret
  exact DDoPost.mk HD rfl (hm.after gA)
set_option maxHeartbeats 4000000 in
set_option maxRecDepth 100000 in
theorem ddo3_any (p : Nat) (d : DD) (F : Nat → Prop) (n : Int) (c : UInt8) (pa : Option Addr) (ps : List Int) (pc : Nat) (w : World) (h : DiskAt w p d F) (hg : DGood d) (hj : d.jr.length ≤ 1000000) :
    Calls Try.prog 82 #[.pointer (some ⟨p, 0, none⟩), .agg #[.int .i64 3, .int .i64 n, .int .u8 (n8 c), .slice pa ps.length pc]] w (DDoPost p d ⟨3, n, c, ps⟩ F w) := by
  have gA : GB w (w.alloc (.cells #[.int .i64 3, .int .i64 n, .int .u8 (n8 c), .slice pa ps.length pc] 122)) := (Below.refl _ _).alloc (Nat.le_refl _) _
  have hX := Blk.new w [.int .i64 3, .int .i64 n, .int .u8 (n8 c), .slice pa ps.length pc] 122
  change Blk (w.alloc (.cells #[.int .i64 3, .int .i64 n, .int .u8 (n8 c), .slice pa ps.length pc] 122)) _ _ _ at hX
  have h1 := h.gb gA
  go_enter Try.func82, Try.ntmps82
  go_upto_region 1 with fail
  generalize w.alloc (.cells #[.int .i64 3, .int .i64 n, .int .u8 (n8 c), .slice pa ps.length pc] 122) = w1 at *
  have x0 := hX.cell 0
  have x1 := hX.cell 1
  have x2 := hX.cell 2
  have x3 := hX.cell 3
  have hc := fuse_any p d F n w1 h1 hg.some
  have HD : Hid (d.do ⟨3, n, c, ps⟩ = d.fuse n) := Lib.hid (by simp [DD.do])
  generalize d.fuse n = res at *
  obtain ⟨code, d2⟩ := res
  go_wp2_with fail
  refine hc.mono ?_
  rintro e w2 ⟨rfl, hm⟩
  go_wp2_with fail
  refine (num_any code w2).mono ?_
  rintro e w3 ⟨rfl, rfl⟩
  go_wp2_with fail
  go_ret
  exact DDoPost.mk HD rfl (hm.after gA)
set_option maxHeartbeats 4000000 in
set_option maxRecDepth 100000 in
theorem ddo4_any (p : Nat) (d : DD) (F : Nat → Prop) (n : Int) (c : UInt8) (pa : Option Addr) (ps : List Int) (pc : Nat) (w : World) (h : DiskAt w p d F) (hg : DGood d) (hj : d.jr.length ≤ 1000000) (hrp : Rd w pa (ps.map bI)) (hpl : ps.length ≤ 1000) :
    Calls Try.prog 82 #[.pointer (some ⟨p, 0, none⟩), .agg #[.int .i64 4, .int .i64 n, .int .u8 (n8 c), .slice pa ps.length pc]] w (DDoPost p d ⟨4, n, c, ps⟩ F w) := by
  have gA : GB w (w.alloc (.cells #[.int .i64 4, .int .i64 n, .int .u8 (n8 c), .slice pa ps.length pc] 122)) := (Below.refl _ _).alloc (Nat.le_refl _) _
  have hX := Blk.new w [.int .i64 4, .int .i64 n, .int .u8 (n8 c), .slice pa ps.length pc] 122
  change Blk (w.alloc (.cells #[.int .i64 4, .int .i64 n, .int .u8 (n8 c), .slice pa ps.length pc] 122)) _ _ _ at hX
  have h1 := h.gb gA
  go_enter Try.func82, Try.ntmps82
  go_upto_region 1 with fail
  generalize w.alloc (.cells #[.int .i64 4, .int .i64 n, .int .u8 (n8 c), .slice pa ps.length pc] 122) = w1 at *
  have x0 := hX.cell 0
  have x1 := hX.cell 1
  have x2 := hX.cell 2
  have x3 := hX.cell 3
  have HD : Hid (d.do ⟨4, n, c, ps⟩ = (0, d.crash ps)) := Lib.hid (by simp [DD.do])
  have hrp1 := gA.rd hrp
  go_wp2_with (first | with_reducible refine halt_dst 36 ?_)
  refine wpList_appendV elemI rfl (.const (.slice none 0 0)) (.tmp 35) rfl (by rfl) (World.ownsRow_nil w1 w1.heap.size 3 1) (by rfl) (by simp) hrp1 (bI_oneCell ps) (by omega) (Nat.le_refl _) ?_
  intro v2 w2 hown2 hG2
  rw [List.nil_append, Nat.zero_add] at hown2
  simp only [Act.put, List.setIfInBounds_toArray, List.set_cons_zero, List.set_cons_succ]
  have hb2 : GB w1 w2 := Below.grown (Below.refl _ _) hG2 (Nat.le_refl _) (by simp [Value.ownBlock])
  obtain ⟨va2, vc2, rfl, hr2, -, -, -, -⟩ := Row.shape hown2
  have hc := crash_any p d F va2 ps vc2 w2 (h1.gb hb2) hg hj hr2
  go_wp2_with fail
  refine hc.mono ?_
  rintro e w3 ⟨rfl, hm⟩
  go_wp2_with fail
  refine (num_any 0 w3).mono ?_
  rintro e w4 ⟨rfl, rfl⟩
  go_wp2_with fail
  go_ret
  exact DDoPost.mk HD rfl (hm.after (GB.trans _ _ _ gA hb2))
set_option maxHeartbeats 4000000 in
set_option maxRecDepth 100000 in
theorem ddo5_any (p : Nat) (d : DD) (F : Nat → Prop) (n : Int) (c : UInt8) (pa : Option Addr) (ps : List Int) (pc : Nat) (w : World) (h : DiskAt w p d F) (hg : DGood d) (hj : d.jr.length ≤ 1000000) :
    Calls Try.prog 82 #[.pointer (some ⟨p, 0, none⟩), .agg #[.int .i64 5, .int .i64 n, .int .u8 (n8 c), .slice pa ps.length pc]] w (DDoPost p d ⟨5, n, c, ps⟩ F w) := by
  have gA : GB w (w.alloc (.cells #[.int .i64 5, .int .i64 n, .int .u8 (n8 c), .slice pa ps.length pc] 122)) := (Below.refl _ _).alloc (Nat.le_refl _) _
  have hX := Blk.new w [.int .i64 5, .int .i64 n, .int .u8 (n8 c), .slice pa ps.length pc] 122
  change Blk (w.alloc (.cells #[.int .i64 5, .int .i64 n, .int .u8 (n8 c), .slice pa ps.length pc] 122)) _ _ _ at hX
  have h1 := h.gb gA
  go_enter Try.func82, Try.ntmps82
  go_upto_region 1 with fail
  generalize w.alloc (.cells #[.int .i64 5, .int .i64 n, .int .u8 (n8 c), .slice pa ps.length pc] 122) = w1 at *
  have x0 := hX.cell 0
  have x1 := hX.cell 1
  have x2 := hX.cell 2
  have x3 := hX.cell 3
  have hc := grow_any p d F n w1 h1 hg
  have HD : Hid (d.do ⟨5, n, c, ps⟩ = d.grow n) := Lib.hid (by simp [DD.do])
  generalize d.grow n = res at *
  obtain ⟨code, d2⟩ := res
  go_wp2_with fail
  refine hc.mono ?_
  rintro e w2 ⟨rfl, hm⟩
  go_wp2_with fail
  refine (num_any code w2).mono ?_
  rintro e w3 ⟨rfl, rfl⟩
  go_wp2_with fail
  go_ret
  exact DDoPost.mk HD rfl (hm.after gA)
set_option maxHeartbeats 4000000 in
set_option maxRecDepth 100000 in
theorem ddo6_any (p : Nat) (d : DD) (F : Nat → Prop) (n : Int) (c : UInt8) (pa : Option Addr) (ps : List Int) (pc : Nat) (w : World) (h : DiskAt w p d F) (hg : DGood d) (hj : d.jr.length ≤ 1000000) :
    Calls Try.prog 82 #[.pointer (some ⟨p, 0, none⟩), .agg #[.int .i64 6, .int .i64 n, .int .u8 (n8 c), .slice pa ps.length pc]] w (DDoPost p d ⟨6, n, c, ps⟩ F w) := by
  have gA : GB w (w.alloc (.cells #[.int .i64 6, .int .i64 n, .int .u8 (n8 c), .slice pa ps.length pc] 122)) := (Below.refl _ _).alloc (Nat.le_refl _) _
  have hX := Blk.new w [.int .i64 6, .int .i64 n, .int .u8 (n8 c), .slice pa ps.length pc] 122
  change Blk (w.alloc (.cells #[.int .i64 6, .int .i64 n, .int .u8 (n8 c), .slice pa ps.length pc] 122)) _ _ _ at hX
  have h1 := h.gb gA
  go_enter Try.func82, Try.ntmps82
  go_upto_region 1 with fail
  generalize w.alloc (.cells #[.int .i64 6, .int .i64 n, .int .u8 (n8 c), .slice pa ps.length pc] 122) = w1 at *
  have x0 := hX.cell 0
  have x1 := hX.cell 1
  have x2 := hX.cell 2
  have x3 := hX.cell 3
  have HD : Hid (d.do ⟨6, n, c, ps⟩ = ((d.read n).2, d)) := Lib.hid (by simp [DD.do])
  have hrd := read_any p d F n w1 h1 hg
  have hlen : (d.read n).1.length = 64 := by
    unfold DD.read
    split
    · rename_i h0
      have hin : 0 ≤ n ∧ n < (d.img.length : Int) := by
        unfold DD.has at h0
        split at h0
        · exact absurd h0 (by decide)
        · omega
      have hk : n.toNat < d.img.length := by omega
      have : d.img.getD n.toNat [] = d.img[n.toNat] := by simp [List.getD, hk]
      show (d.img.getD n.toNat []).length = 64
      rw [this]; exact hg.sec.at _ hk
    · exact zeros_length 64
  generalize d.read n = res at *
  obtain ⟨s, code⟩ := res
  simp only at hlen
  have HL := Lib.hid hlen
  have hz := Lib.hid (zeros_length 64)
  clear hlen
  go_wp2_with fail
  refine hrd.mono ?_
  rintro e w2 ⟨rfl, hb2⟩
  go_wp2_with (first | with_reducible refine halt_alloc 59 ?_ | with_reducible refine halt_store 59 ?_)
  refine L.alloc rfl zero59 (by rfl) ?_
  intro w3 hA3 hG3
  simp only [Act.put, List.setIfInBounds_toArray, List.set_cons_zero, List.set_cons_succ]
  go_wp2_with (first | with_reducible refine halt_alloc 59 ?_ | with_reducible refine halt_store 59 ?_)
  refine L.store rfl info59 (by rfl) (by rfl) hA3 (by rw [List.length_map]; exact hz.out) HL.out (by rfl) ?_
  intro w4 hA4 hG4
  simp only [Act.put]
  have hb4 : GB w w4 := Below.grown (GB.trans _ _ _ gA (GB.trans _ _ _ hb2 hG3)) hG4 (GB.trans _ _ _ gA (GB.trans _ _ _ hb2 hG3)).size (fun j hj => by rw [← Option.some.inj hj]; exact (GB.trans _ _ _ gA hb2).size)
  go_wp2_with fail
  refine (num_any code w4).mono ?_
  rintro e w5 ⟨rfl, rfl⟩
  go_wp2_with fail
  go_ret
  exact DDoPost.mk HD rfl (Moved.of_gb h hb4)
set_option maxHeartbeats 4000000 in
set_option maxRecDepth 100000 in
theorem ddoX_any (p : Nat) (d : DD) (F : Nat → Prop) (kind : Int) (n : Int) (c : UInt8) (pa : Option Addr) (ps : List Int) (pc : Nat) (w : World) (h : DiskAt w p d F) (hg : DGood d) (hj : d.jr.length ≤ 1000000) (k1 : (kind == 1) = false) (k2 : (kind == 2) = false) (k3 : (kind == 3) = false) (k4 : (kind == 4) = false) (k5 : (kind == 5) = false) (k6 : (kind == 6) = false) :
    Calls Try.prog 82 #[.pointer (some ⟨p, 0, none⟩), .agg #[.int .i64 kind, .int .i64 n, .int .u8 (n8 c), .slice pa ps.length pc]] w (DDoPost p d ⟨kind, n, c, ps⟩ F w) := by
  have gA : GB w (w.alloc (.cells #[.int .i64 kind, .int .i64 n, .int .u8 (n8 c), .slice pa ps.length pc] 122)) := (Below.refl _ _).alloc (Nat.le_refl _) _
  have hX := Blk.new w [.int .i64 kind, .int .i64 n, .int .u8 (n8 c), .slice pa ps.length pc] 122
  change Blk (w.alloc (.cells #[.int .i64 kind, .int .i64 n, .int .u8 (n8 c), .slice pa ps.length pc] 122)) _ _ _ at hX
  have h1 := h.gb gA
  go_enter Try.func82, Try.ntmps82
  go_upto_region 1 with fail
  generalize w.alloc (.cells #[.int .i64 kind, .int .i64 n, .int .u8 (n8 c), .slice pa ps.length pc] 122) = w1 at *
  have x0 := hX.cell 0
  have x1 := hX.cell 1
  have x2 := hX.cell 2
  have x3 := hX.cell 3
  have HD : Hid (d.do ⟨kind, n, c, ps⟩ = (0, d)) := Lib.hid (by
    simp only [beq_eq_false_iff_ne] at k1 k2 k3 k4 k5 k6
    simp [DD.do, k1, k2, k3, k4, k5, k6])
  go_wp2_with fail
  go_ret
  exact DDoPost.mk HD rfl (Moved.of_gb h gA)
theorem ddo_any (p : Nat) (d : DD) (F : Nat → Prop) (x : Step) (pa : Option Addr) (pc : Nat) (w : World) (h : DiskAt w p d F) (hg : DGood d) (hj : d.jr.length ≤ 1000000) (hrp : Rd w pa (x.picks.map bI)) (hpl : x.picks.length ≤ 1000) :
    Calls Try.prog 82 #[.pointer (some ⟨p, 0, none⟩), stepV x pa pc] w (DDoPost p d x F w) := by
  obtain ⟨kind, n, c, ps⟩ := x
  unfold stepV
  by_cases k1 : kind = 1
  · subst k1; exact ddo1_any p d F n c pa ps pc w h hg hj
  by_cases k2 : kind = 2
  · subst k2; exact ddo2_any p d F n c pa ps pc w h hg hj
  by_cases k3 : kind = 3
  · subst k3; exact ddo3_any p d F n c pa ps pc w h hg hj
  by_cases k4 : kind = 4
  · subst k4; exact ddo4_any p d F n c pa ps pc w h hg hj hrp hpl
  by_cases k5 : kind = 5
  · subst k5; exact ddo5_any p d F n c pa ps pc w h hg hj
  by_cases k6 : kind = 6
  · subst k6; exact ddo6_any p d F n c pa ps pc w h hg hj
  exact ddoX_any p d F kind n c pa ps pc w h hg hj (by simpa using k1) (by simpa using k2) (by simpa using k3) (by simpa using k4) (by simpa using k5) (by simpa using k6)
end Go.Proofs.Ytiihllfjlgbfcaa
