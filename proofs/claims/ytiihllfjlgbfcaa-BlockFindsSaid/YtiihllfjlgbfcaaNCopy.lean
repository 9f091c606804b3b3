/- The walks of block.Same and of block.Copy. -/
import Derived.Test.YtiihllfjlgbfcaaNFind
import Derived.Test.YtiihllfjlgbfcaaNOf
import Derived.Test.YtiihllfjlgbfcaaNSame
namespace Go.Proofs.Ytiihllfjlgbfcaa
open Go.RowKit
theorem ret_cellS1 {fn : Func} {R : Ending → World → Prop} {a : Act} {w : World} {p g n : Nat} {T U : TypeId} {fs : Array Field} {cs : List Value} (hr : fn.results = #[.cell p U]) (hp : a.tmps.getD p undef = .pointer (some ⟨g, 0, none⟩))
    (hU : Try.prog.underlying U = some (.struct fs)) (hs : (Try.prog.info? U).map (·.size) = some n) (hB : Blk w g T cs) (hn : cs.length = n) (hdf : a.defers = [])
    (h : R (.returned (.agg cs.toArray)) w) : bodyPost Try.prog fn R .ret a w := by
  refine bodyPost_ret ?_ hdf h
  have := run_load_part (P := Try.prog) (o := 0) hB hU rfl hs (by omega)
  rw [List.drop_zero, List.take_of_length_le (by omega)] at this
  have h2 : (loadVar U ⟨g, 0, none⟩).run Try.prog w = .ok (.agg cs.toArray) w := by
    simpa [Instr.loadAt, Instr.sureAddr] using this
  have hp' : a.tmps[p]?.getD undef = .pointer (some ⟨g, 0, none⟩) := by simpa using hp
  simp [results, hr, hp', asAddr, h2]
set_option maxHeartbeats 4000000 in
set_option maxRecDepth 100000 in
theorem bsame_any (k1 : Int) (b1 : UInt64) (ka1 : Option Addr) (ks1 : List UInt64) (kc1 : Nat) (va1 : Option Addr) (vs1 : List UInt64) (vc1 : Nat) (k2 : Int) (b2 : UInt64) (ka2 : Option Addr) (ks2 : List UInt64) (kc2 : Nat) (va2 : Option Addr) (vs2 : List UInt64) (vc2 : Nat) (w : World)
    (hl1 : ks1.length ≤ maxLen) (hl2 : vs1.length ≤ maxLen) (hl3 : ks2.length ≤ maxLen) (hl4 : vs2.length ≤ maxLen) (hk1 : Rd w ka1 (ks1.map b64)) (hv1 : Rd w va1 (vs1.map b64)) (hk2 : Rd w ka2 (ks2.map b64)) (hv2 : Rd w va2 (vs2.map b64)) :
    Calls Try.prog 71 #[nodeV k1 b1 ka1 ks1.length kc1 va1 vs1.length vc1, nodeV k2 b2 ka2 ks2.length kc2 va2 vs2.length vc2] w fun e w' => e = .returned (.bool (sameN k1 b1 ks1 vs1 k2 b2 ks2 vs2)) ∧ Below w.heap.size w w' := by
  unfold nodeV at *
  have hg : GB w ((w.alloc (.cells #[.int .i64 k1, .int .u64 (n64 b1), .slice ka1 ks1.length kc1, .slice va1 vs1.length vc1] 95)).alloc (.cells #[.int .i64 k2, .int .u64 (n64 b2), .slice ka2 ks2.length kc2, .slice va2 vs2.length vc2] 95)) := ((Below.refl _ _).alloc (Nat.le_refl _) _).alloc (by simp) _
  by_cases h1 : k1 = k2
  · by_cases h2 : b1 = b2
    · have c1 : (k1 == k2) = true := by simp [h1]
      have c2 : (n64 b1 == n64 b2) = true := by simp [h2]
      have HS : Hid (sameN k1 b1 ks1 vs1 k2 b2 ks2 vs2 = ((ks1 == ks2) && (vs1 == vs2))) := Lib.hid (by unfold sameN; simp [h1, h2])
      clear h1 h2
      have hN1 := (Blk.new w [.int .i64 k1, .int .u64 (n64 b1), .slice ka1 ks1.length kc1, .slice va1 vs1.length vc1] 95).alloc (.cells #[.int .i64 k2, .int .u64 (n64 b2), .slice ka2 ks2.length kc2, .slice va2 vs2.length vc2] 95)
      have hN2 : Blk ((w.alloc (.cells #[.int .i64 k1, .int .u64 (n64 b1), .slice ka1 ks1.length kc1, .slice va1 vs1.length vc1] 95)).alloc (.cells #[.int .i64 k2, .int .u64 (n64 b2), .slice ka2 ks2.length kc2, .slice va2 vs2.length vc2] 95)) (w.heap.size + 1) 95 [.int .i64 k2, .int .u64 (n64 b2), .slice ka2 ks2.length kc2, .slice va2 vs2.length vc2] := by
        have := Blk.new (w.alloc (.cells #[.int .i64 k1, .int .u64 (n64 b1), .slice ka1 ks1.length kc1, .slice va1 vs1.length vc1] 95)) [.int .i64 k2, .int .u64 (n64 b2), .slice ka2 ks2.length kc2, .slice va2 vs2.length vc2] 95
        simpa using this
      change Blk ((w.alloc (.cells #[.int .i64 k1, .int .u64 (n64 b1), .slice ka1 ks1.length kc1, .slice va1 vs1.length vc1] 95)).alloc (.cells #[.int .i64 k2, .int .u64 (n64 b2), .slice ka2 ks2.length kc2, .slice va2 vs2.length vc2] 95)) _ _ _ at hN1
      go_enter Try.func71, Try.ntmps71
      go_wp2_with fail
      generalize (w.alloc (.cells #[.int .i64 k1, .int .u64 (n64 b1), .slice ka1 ks1.length kc1, .slice va1 vs1.length vc1] 95)).alloc (.cells #[.int .i64 k2, .int .u64 (n64 b2), .slice ka2 ks2.length kc2, .slice va2 vs2.length vc2] 95) = w2 at *
      have E1 := equal64_any ka1 ka2 ks1 ks2 kc1 kc2 w2 hl1 hl3 (hk1.below hg) (hk2.below hg)
      by_cases hke : ks1 = ks2
      · have hq : (ks1 == ks2) = true := by simpa using hke
        rw [hq] at E1 HS
        clear hke hq
        refine E1.mono ?_
        rintro e w3 ⟨rfl, hb3⟩
        have hg3 := bgb hg hb3 hg.size
        obtain ⟨m0, m1, m2, m3⟩ := (hN1.gb hb3).c4
        obtain ⟨p0, p1, p2, p3⟩ := (hN2.gb hb3).c4
        have E2 := equal64_any va1 va2 vs1 vs2 vc1 vc2 w3 hl2 hl4 (hv1.below hg3) (hv2.below hg3)
        go_wp2_with fail
        refine E2.mono ?_
        rintro e w4 ⟨rfl, hb4⟩
        generalize hq : (vs1 == vs2) = q at *
        have HQ := Lib.hid hq
        clear hq
        go_wp2_with fail
        go_ret
        exact ⟨by rw [HS.out]; rfl, bgb hg3 hb4 hg3.size⟩
      · have hq : (ks1 == ks2) = false := by simpa using hke
        rw [hq] at E1 HS
        clear hke hq
        refine E1.mono ?_
        rintro e w3 ⟨rfl, hb3⟩
        go_wp2_with fail
        go_ret
        exact ⟨by rw [HS.out]; rfl, bgb hg hb3 hg.size⟩
    · have c1 : (k1 == k2) = true := by simp [h1]
      have c2 : (n64 b1 == n64 b2) = false := by rw [n64_beq]; simpa using h2
      have HS : Hid (sameN k1 b1 ks1 vs1 k2 b2 ks2 vs2 = false) := Lib.hid (by unfold sameN; simp [h2])
      clear h1 h2
      go_enter Try.func71, Try.ntmps71
      go_wp2_with fail
      go_ret
      exact ⟨by rw [HS.out]; rfl, hg⟩
  · have c1 : (k1 == k2) = false := by simp [h1]
    have HS : Hid (sameN k1 b1 ks1 vs1 k2 b2 ks2 vs2 = false) := Lib.hid (by unfold sameN; simp [h1])
    clear h1
    go_enter Try.func71, Try.ntmps71
    go_wp2_with fail
    go_ret
    exact ⟨by rw [HS.out]; rfl, hg⟩
/-- The call hands back a node of its own. -/
def GivesCopy (kind : Int) (birth : UInt64) (ks vs : List UInt64) (w : World) (e : Ending) (w' : World) : Prop :=
  ∃ x y, e = .returned (.agg #[.int .i64 kind, .int .u64 (n64 birth), x, y]) ∧ w'.ownsRow w.heap.size 75 1 x ks.length (ks.map b64) ∧ w'.ownsRow w.heap.size 75 1 y vs.length (vs.map b64) ∧ (∀ k, x.ownBlock = some k → y.ownBlock ≠ some k) ∧ Below w.heap.size w w'
set_option maxHeartbeats 4000000 in
set_option maxRecDepth 100000 in
theorem copy_any (kind : Int) (birth : UInt64) (ka : Option Addr) (ks : List UInt64) (kc : Nat) (va : Option Addr) (vs : List UInt64) (vc : Nat) (w : World)
    (hl1 : ks.length ≤ 1099511627776) (hl2 : vs.length ≤ 1099511627776) (hk : Rd w ka (ks.map b64)) (hv : Rd w va (vs.map b64)) :
    Calls Try.prog 72 #[nodeV kind birth ka ks.length kc va vs.length vc] w (GivesCopy kind birth ks vs w) := by
  unfold nodeV at *
  have hg : GB w ((w.alloc (.cells #[.int .i64 kind, .int .u64 (n64 birth), .slice ka ks.length kc, .slice va vs.length vc] 95)).alloc (.cells #[.int .i64 0, .int .u64 0, .slice none 0 0, .slice none 0 0] 95)) := ((Below.refl _ _).alloc (Nat.le_refl _) _).alloc (by simp) _
  have hN1 := (Blk.new w [.int .i64 kind, .int .u64 (n64 birth), .slice ka ks.length kc, .slice va vs.length vc] 95).alloc (.cells #[.int .i64 0, .int .u64 0, .slice none 0 0, .slice none 0 0] 95)
  have hN2 : Blk ((w.alloc (.cells #[.int .i64 kind, .int .u64 (n64 birth), .slice ka ks.length kc, .slice va vs.length vc] 95)).alloc (.cells #[.int .i64 0, .int .u64 0, .slice none 0 0, .slice none 0 0] 95)) (w.heap.size + 1) 95 [.int .i64 0, .int .u64 0, .slice none 0 0, .slice none 0 0] := by
    have := Blk.new (w.alloc (.cells #[.int .i64 kind, .int .u64 (n64 birth), .slice ka ks.length kc, .slice va vs.length vc] 95)) [.int .i64 0, .int .u64 0, .slice none 0 0, .slice none 0 0] 95
    simpa using this
  change Blk ((w.alloc (.cells #[.int .i64 kind, .int .u64 (n64 birth), .slice ka ks.length kc, .slice va vs.length vc] 95)).alloc (.cells #[.int .i64 0, .int .u64 0, .slice none 0 0, .slice none 0 0] 95)) _ _ _ at hN1
  have hsz : ((w.alloc (.cells #[.int .i64 kind, .int .u64 (n64 birth), .slice ka ks.length kc, .slice va vs.length vc] 95)).alloc (.cells #[.int .i64 0, .int .u64 0, .slice none 0 0, .slice none 0 0] 95)).heap.size = w.heap.size + 2 := by simp
  go_enter Try.func72, Try.ntmps72
  go_wp2_with fail
  generalize (w.alloc (.cells #[.int .i64 kind, .int .u64 (n64 birth), .slice ka ks.length kc, .slice va vs.length vc] 95)).alloc (.cells #[.int .i64 0, .int .u64 0, .slice none 0 0, .slice none 0 0] 95) = w2 at *
  have hN1d := Blk.gb hN1 (GB.drew w2)
  have hN2d := Blk.gb hN2 (GB.drew w2)
  have C2 : ∀ u, GB w2.drew u → u.cell? ⟨w.heap.size, 2, none⟩ = some (.slice ka ks.length kc) := fun u hu => (hN1d.gb hu).cell 2
  have C3 : ∀ u, GB w2.drew u → u.cell? ⟨w.heap.size, 3, none⟩ = some (.slice va vs.length vc) := fun u hu => (hN1d.gb hu).cell 3
  have hgd := GB.trans _ _ _ hg (GB.drew w2)
  refine region_gb [(0,0),(1,0),(3,0),(4,0),(2,1),(6,0),(5,1),(7,2),(8,1),(9,2)] [7,9] (by kernel_rfl) ?_
  iterate 4 (refine S0w (v := ?_) (by rfl) (by rfl) (fun u hu N hN => ?_) ?_; rotate_left; (go_simp; exact hN); simp only [Act.put, List.setIfInBounds_toArray, List.set_cons_zero, List.set_cons_succ])
  refine S1 (by rfl) (by rfl) (fun K hK => ?_)
  go_wp2_with fail
  refine (clone64_any ka ks kc _ hl1 (hk.below hgd)).mono ?_
  rintro e w3 ⟨x, rfl, hx, hb3⟩
  refine hK _ _ hb3 ?_
  clear hK K
  have hs2 : w2.drew.heap.size = w.heap.size + 2 := hsz
  have hsx := hx.lt
  have hN1e := hN1d.gb hb3
  have hN2e := hN2d.gb hb3
  have hg3 := GB.trans _ _ _ hgd hb3
  clear C2 C3 hN1 hN2
  have hs3 := hb3.size
  iterate 1 (refine S0w (v := ?_) (by rfl) (by rfl) (fun u hu N hN => ?_) ?_; rotate_left; (go_simp; exact hN); simp only [Act.put, List.setIfInBounds_toArray, List.set_cons_zero, List.set_cons_succ])
  refine S1 (by rfl) (by rfl) (fun K hK => ?_)
  go_wp2_with fail
  refine (clone64_any va vs vc _ hl2 (hv.below hg3)).mono ?_
  rintro e w4 ⟨y, rfl, hy, hb4⟩
  refine hK _ _ hb4 ?_
  clear hK K
  have hN1f := hN1e.gb hb4
  have hN2f := hN2e.gb hb4
  have hx4 := Row.gb hx hb4
  have hg4 := GB.trans _ _ _ hg3 hb4
  have hsy := hy.lt
  have hs4 := hb4.size
  have hdis : ∀ k, x.ownBlock = some k → y.ownBlock ≠ some k := fun k h1 h2 => by have := hsx k h1; have := hsy k h2; omega
  clear hN1e hN2e hx hb4 hb3 hg3 hgd hN1d hN2d
  obtain ⟨xa, xc, rfl, -, -, -, -, -⟩ := Row.shape hx4
  obtain ⟨ya, yc, rfl, -, -, -, -, -⟩ := Row.shape hy
  have nf := fun j => hN1f.frozen j
  obtain ⟨n0, n1, n2, n3⟩ := hN1f.c4
  refine S2 (by rfl) (by rfl) (fun K hK => ?_)
  go_wp2_with fail
  refine S1 (by rfl) (by rfl) (fun K hK => ?_)
  go_wp2_with fail
  refine hK _ _ (GB.refl _) ?_
  clear hK K
  refine S2 (by rfl) (by rfl) (fun K hK => ?_)
  go_wp2_with fail
  refine S.done ?_
  have hN1g := (hN1f.set 2 (.slice xa ks.length xc)).set 3 (.slice ya vs.length yc)
  have hN2g := (hN2f.other (k := w.heap.size) (by omega) 2 (.slice xa ks.length xc)).other (k := w.heap.size) (by omega) 3 (.slice ya vs.length yc)
  have f5 : Fr (· = w.heap.size) w4 ((w4.setCell ⟨w.heap.size, 2, none⟩ (.slice xa ks.length xc)).setCell ⟨w.heap.size, 3, none⟩ (.slice ya vs.length yc)) := ((Fr.refl (· = w.heap.size) w4).setCell _ _ _ (.inl rfl)).setCell _ _ _ (.inl rfl)
  generalize (w4.setCell ⟨w.heap.size, 2, none⟩ (.slice xa ks.length xc)).setCell ⟨w.heap.size, 3, none⟩ (.slice ya vs.length yc) = w5 at *
  change Blk w5 w.heap.size 95 [.int .i64 kind, .int .u64 (n64 birth), .slice xa ks.length xc, .slice ya vs.length yc] at hN1g
  have hx5 := f5.row hx4 (fun k hk h => by have := hsx k hk; omega)
  have hy5 := f5.row hy (fun k hk h => by have := hsy k hk; omega)
  have hg5 : Below w.heap.size w w5 := Below.trans hg4 (f5.below (fun k _ hk => by omega) hg4.size)
  have hs5 := f5.size
  clear n0 n1 n2 n3 nf hN1f hN2f hx4 hy hg4
  obtain ⟨n0, n1, n2, n3⟩ := hN1g.c4
  go_wp2_with (first | with_reducible refine halt_store 95 ?_)
  refine L.storeS (vs := [.int .i64 kind, .int .u64 (n64 birth), .slice xa ks.length xc, .slice ya vs.length yc]) rfl info95 (by rfl) (by rfl) hN2g rfl rfl (by simp [Value.oneCell']) (by rfl) ?_
  intro w6 hN6 hG6
  simp only [Act.put]
  go_wp2_with fail
  refine ret_cellS1 (n := 4) rfl (by rfl) Try.underlying95 info95 hN6 rfl rfl ?_
  have hx6 := World.ownsRow.kept hx5 hG6 (by
    cases hx : (Value.slice xa ks.length xc).ownBlock with
    | none => exact .inl rfl
    | some j => exact .inr fun h => by have := hsx j hx; cases h; omega)
  have hy6 := World.ownsRow.kept hy5 hG6 (by
    cases hx : (Value.slice ya vs.length yc).ownBlock with
    | none => exact .inl rfl
    | some j => exact .inr fun h => by have := hsy j hx; cases h; omega)
  exact ⟨_, _, rfl, Row.mono hx6 (by omega), Row.mono hy6 (by omega), hdis, hg5.grown hG6 hg5.size (fun k hk => by cases hk; omega)⟩
end Go.Proofs.Ytiihllfjlgbfcaa
