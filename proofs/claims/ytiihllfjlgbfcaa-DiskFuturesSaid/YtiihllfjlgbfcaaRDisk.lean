/- The reference's disk, plainly; how it lies in memory; the walks of its small functions. -/
import Derived.Test.YtiihllfjlgbfcaaDCrash
namespace Go.Proofs.Ytiihllfjlgbfcaa
open Go.RowKit
structure RD where
  s : List (List UInt8)
  fuse : Int
  dead : Bool
structure RGood (r : RD) : Prop where
  some : 0 < r.s.length
  few : r.s.length ≤ 8192
  ne : ∀ x ∈ r.s, 0 < x.length ∧ x.length ≤ 1000000
  lo : -1 ≤ r.fuse
  hi : r.fuse ≤ 9223372036854775807
structure RLay where
  vs : Value
  cs : List Value
def RLay.cell (y : RLay) (w : World) (q : Nat) (G : Nat → Prop) (x : List UInt8) (u : Value) : Prop := ∃ a c, u = .slice a x.length c ∧ Rd w a (x.map b8) ∧ ∀ ad, a = some ad → ad.block ≠ q ∧ y.vs.ownBlock ≠ some ad.block ∧ G ad.block
/-- The reference's disk r lies at q, in blocks of which G is true. -/
structure RefL (w : World) (q : Nat) (r : RD) (G : Nat → Prop) (y : RLay) : Prop where
  blk : Blk w q 137 [y.vs, .int .i64 r.fuse, .bool r.dead]
  row : w.ownsRow 0 141 1 y.vs r.s.length y.cs
  each : ∀ i (h : i < r.s.length) (h' : i < y.cs.length), y.cell w q G r.s[i] y.cs[i]
  dis : y.vs.ownBlock ≠ some q
  cov : G q ∧ ∀ k, y.vs.ownBlock = some k → G k
  bnd : ∀ k, G k → k < w.heap.size
def RefAt (w : World) (q : Nat) (r : RD) (G : Nat → Prop) : Prop := ∃ y, RefL w q r G y
theorem RefL.fr {w u : World} {q : Nat} {r : RD} {G H : Nat → Prop} {y : RLay} (h : RefL w q r G y) (f : Fr H w u) (hd : ∀ k, G k → ¬ H k) : RefL u q r G y :=
  ⟨f.blk h.blk (hd _ h.cov.1), f.row h.row (fun k hk => hd k (h.cov.2 k hk)), fun i hi hi' => by
    obtain ⟨a, c, hv, hr, hb⟩ := h.each i hi hi'
    exact ⟨a, c, hv, f.rd hr (fun ad ha => hd _ (hb ad ha).2.2), hb⟩, h.dis, h.cov, fun k hk => Nat.lt_of_lt_of_le (h.bnd k hk) f.size⟩
theorem RefAt.fr {w u : World} {q : Nat} {r : RD} {G H : Nat → Prop} (h : RefAt w q r G) (f : Fr H w u) (hd : ∀ k, G k → ¬ H k) : RefAt u q r G := by
  obtain ⟨y, h⟩ := h; exact ⟨y, h.fr f hd⟩
theorem RefL.gb {w u : World} {q : Nat} {r : RD} {G : Nat → Prop} {y : RLay} (h : RefL w q r G y) (f : GB w u) : RefL u q r G y := h.fr (Fr.of_gb (F := fun _ => False) f) (fun _ _ h => h)
theorem RefAt.gb {w u : World} {q : Nat} {r : RD} {G : Nat → Prop} (h : RefAt w q r G) (f : GB w u) : RefAt u q r G := by
  obtain ⟨y, h⟩ := h; exact ⟨y, h.gb f⟩
def RMoved (q : Nat) (r : RD) (G : Nat → Prop) (w w' : World) : Prop := ∃ G' : Nat → Prop, RefAt w' q r G' ∧ Fr G w w' ∧ ∀ k, G' k → G k ∨ w.heap.size ≤ k
theorem RefL.moved {w u : World} {q : Nat} {r : RD} {G : Nat → Prop} {y : RLay} (h : RefL u q r G y) (f : Fr G w u) : RMoved q r G w u := ⟨G, ⟨y, h⟩, f, fun _ hk => .inl hk⟩
theorem RMoved.refl {w : World} {q : Nat} {r : RD} {G : Nat → Prop} (h : RefAt w q r G) : RMoved q r G w w := ⟨G, h, Fr.refl _ _, fun _ hk => .inl hk⟩
theorem RMoved.chain {w u v : World} {q : Nat} {r : RD} {G G' : Nat → Prop} (hf : Fr G w u) (hs : ∀ k, G' k → G k ∨ w.heap.size ≤ k) (k : RMoved q r G' u v) : RMoved q r G w v := by
  obtain ⟨G'', hd2, hf2, hs2⟩ := k
  refine ⟨G'', hd2, hf.chain hs hf2, fun k hk => ?_⟩
  rcases hs2 k hk with h | h
  · exact hs k h
  · exact .inr (Nat.le_trans hf.size h)
theorem RefL.cells {w : World} {q : Nat} {r : RD} {G : Nat → Prop} {y : RLay} (h : RefL w q r G y) :
    w.cell? ⟨q, 0, none⟩ = some y.vs ∧ w.cell? ⟨q, 1, none⟩ = some (.int .i64 r.fuse) ∧ w.cell? ⟨q, 2, none⟩ = some (.bool r.dead) := ⟨h.blk.cell 0, h.blk.cell 1, h.blk.cell 2⟩
theorem RefL.len {w : World} {q : Nat} {r : RD} {G : Nat → Prop} {y : RLay} (h : RefL w q r G y) : y.cs.length = r.s.length := by have := h.row.1; omega
/-- The cell of a sector's past. -/
theorem RefL.at {w : World} {q : Nat} {r : RD} {G : Nat → Prop} {y : RLay} (h : RefL w q r G y) (i : Nat) (hi : i < r.s.length) :
    ∃ gs c a ac, y.vs = .slice (some ⟨gs, 0, none⟩) r.s.length c ∧ w.cell? ⟨gs, i, none⟩ = some (.slice a r.s[i].length ac) ∧ Rd w a (r.s[i].map b8) ∧ gs ≠ q := by
  have hl := h.len
  obtain ⟨a, ac, hv, hr, -⟩ := h.each i hi (by omega)
  have hrow := h.row
  rcases hrow.2 with ⟨_, h0⟩ | ⟨g, cap, cur, h1, hb, hg, hnc, hcm, hs, ht⟩
  · omega
  · refine ⟨g, cap, a, ac, h1, ?_, hr, fun e => h.dis (by rw [h1, e]; rfl)⟩
    have hB : Blk w g 141 cur.toList := by unfold Blk; rw [hg]
    rw [hB.cell]
    have e : cur.toList[i]? = y.cs[i]? := by
      rw [← ht, List.getElem?_take]
      simp; omega
    rw [e, List.getElem?_eq_getElem (by omega), hv]
def RD.now (r : RD) (i : Nat) : UInt8 := (r.s.getD i []).getD ((r.s.getD i []).length - 1) 0
def RD.lasts (r : RD) (i : Nat) : UInt8 := (r.s.getD i []).getD 0 0
set_option maxRecDepth 100000 in
theorem now_any (q : Nat) (r : RD) (G : Nat → Prop) (i : Nat) (w : World) (h : RefAt w q r G) (hg : RGood r) (hi : i < r.s.length) :
    Calls Try.prog 91 #[.pointer (some ⟨q, 0, none⟩), .int .i64 i] w fun e w' => e = .returned (.int .u8 (n8 (r.now i))) ∧ GB w w' := by
  obtain ⟨y, hr⟩ := h
  have hrd := hr.gb (GB.drew w)
  obtain ⟨gs, c, a, ac, hvs, hc, hrd8, hne⟩ := hrd.at i hi
  have hq0 := hrd.blk
  rw [hvs] at hq0
  have hpos := (hg.ne _ (List.getElem_mem hi)).1
  have hle := (hg.ne _ (List.getElem_mem hi)).2
  have hnow : r.now i = (r.s[i])[r.s[i].length - 1]'(by omega) := by unfold RD.now; simp [List.getD, hi, show r.s[i].length - 1 < r.s[i].length by omega]
  rw [hnow]
  obtain ⟨ad, rfl, hcl⟩ := hrd8 (r.s[i].length - 1) (by rw [List.length_map]; omega)
  simp only [List.getElem_map, b8] at hcl
  generalize hx : (r.s[i])[r.s[i].length - 1]'(by omega) = x at *
  clear hx hnow
  generalize r.s[i] = T1 at *
  have e1 : IntKind.i64.wrap ((T1.length : Int) - 1) = ((T1.length - 1 : Nat) : Int) := by rw [wrapi _ (by omega) (by omega)]; omega
  have e2 : (T1.length : Int) - 1 = ((T1.length - 1 : Nat) : Int) := by omega
  have hlt : T1.length - 1 < T1.length := by omega
  have e3 : IntKind.i64.wrap ((T1.length - 1 : Nat) : Int) = ((T1.length - 1 : Nat) : Int) := wrapi _ (by omega) (by omega)
  generalize T1.length - 1 = m at *
  have C0 : ∀ u, GB w.drew u → u.cell? ⟨q, 0, none⟩ = some (.slice (some ⟨gs, 0, none⟩) r.s.length c) := fun u hu => (hq0.gb hu).cell 0
  have C1 : ∀ u, GB w.drew u → u.cell? ⟨gs, i, none⟩ = some (.slice (some ad) T1.length ac) := fun u hu => hu.cell hc
  have C2 : ∀ u, GB w.drew u → u.cell? (ad.add m) = some (.int .u8 (n8 x)) := fun u hu => hu.cell hcl
  clear hvs
  go_enter Try.func91, Try.ntmps91
  go_upto_region 1 with fail
  refine region_gb [(0,0),(1,0),(2,0),(3,0),(4,0),(5,0),(6,0),(7,0),(8,0),(9,0),(10,0),(11,0),(12,0),(13,0),(14,0),(15,0),(16,0),(17,0),(18,0),(19,0),(20,0)] [] (by kernel_rfl) ?_
  repeat (refine S0w (v := ?_) (by rfl) (by rfl) (fun u hu N hN => ?_) ?_; rotate_left; (go_simp; exact hN); simp only [Act.put, List.setIfInBounds_toArray, List.set_cons_zero, List.set_cons_succ])
  refine S.done ?_
  go_wp2_with fail
  go_ret
  exact ⟨rfl, GB.drew w⟩
set_option maxRecDepth 100000 in
theorem lasts_any (q : Nat) (r : RD) (G : Nat → Prop) (i : Nat) (w : World) (h : RefAt w q r G) (hg : RGood r) (hi : i < r.s.length) :
    Calls Try.prog 92 #[.pointer (some ⟨q, 0, none⟩), .int .i64 i] w fun e w' => e = .returned (.int .u8 (n8 (r.lasts i))) ∧ w = w' := by
  obtain ⟨y, hr⟩ := h
  obtain ⟨gs, c, a, ac, hvs, hc, hrd8, hne⟩ := hr.at i hi
  have hq0 := hr.cells.1
  rw [hvs] at hq0
  have hpos := (hg.ne _ (List.getElem_mem hi)).1
  have hnow : r.lasts i = (r.s[i])[0]'hpos := by unfold RD.lasts; simp [List.getD, hi, hpos]
  rw [hnow]
  obtain ⟨ad, rfl, hcl⟩ := hrd8 0 (by rw [List.length_map]; omega)
  simp only [List.getElem_map, b8] at hcl
  generalize hx : (r.s[i])[0]'hpos = x at *
  clear hx hnow
  generalize r.s[i] = T1 at *
  have hcl' : w.cell? ad = some (.int .u8 (n8 x)) := hcl
  go_enter Try.func92, Try.ntmps92
  go_wp2_with fail
  go_ret
  exact ⟨rfl, rfl⟩
theorem RefL.keep {w u : World} {q : Nat} {r : RD} {G : Nat → Prop} {y : RLay} {l : Int} {b : Bool} (h : RefL w q r G y) (f : Fr (· = q) w u)
    (hb : Blk u q 137 [y.vs, .int .i64 l, .bool b]) : RefL u q { r with fuse := l, dead := b } G y :=
  ⟨hb, f.row h.row (fun k hk e => h.dis (by rw [hk, e])), fun i hi hi' => by
    obtain ⟨a, c, hv, hr, hne⟩ := h.each i hi hi'
    exact ⟨a, c, hv, f.rd hr (fun ad ha => (hne ad ha).1), hne⟩, h.dis, h.cov, fun k hk => Nat.lt_of_lt_of_le (h.bnd k hk) f.size⟩
theorem RefL.frq {w u : World} {q : Nat} {r : RD} {G : Nat → Prop} {y : RLay} (h : RefL w q r G y) (f : Fr (· = q) w u) : Fr G w u := f.mono (fun k _ hk => by rw [hk]; exact h.cov.1)
def RD.moves (r : RD) : Bool × RD := if r.dead || r.fuse == 0 then (false, { r with dead := true }) else (true, { r with fuse := if 0 < r.fuse then r.fuse - 1 else r.fuse, dead := false })
theorem moves_any (q : Nat) (r : RD) (G : Nat → Prop) (w : World) (h : RefAt w q r G) (hlo : -1 ≤ r.fuse) (hhi : r.fuse ≤ 9223372036854775807) :
    Calls Try.prog 128 #[.pointer (some ⟨q, 0, none⟩)] w fun e w' => e = .returned (.bool r.moves.1) ∧ RMoved q r.moves.2 G w w' := by
  have h0 := h
  obtain ⟨y, h⟩ := h
  obtain ⟨c0, c1, c2⟩ := h.cells
  have nf := fun j => h.blk.frozen j
  have hb1 := h.blk.set 2 (.bool true)
  have hf1 := (Fr.refl (· = q) w).setCell q 2 (.bool true) (.inl rfl)
  by_cases hd : r.dead = true
  · have HE : Hid (r.moves = (false, { r with dead := true })) := Lib.hid (by simp [RD.moves, hd])
    have hk := h.keep hf1 hb1
    rw [hd] at c2
    clear hd
    go_enter Try.func128, Try.ntmps128
    go_wp2_with fail
    go_ret
    exact ⟨by rw [HE.out]; rfl, by rw [HE.out]; exact hk.moved (h.frq hf1)⟩
  · have hd' : r.dead = false := by simpa using hd
    by_cases hl : r.fuse = 0
    · have HE : Hid (r.moves = (false, { r with dead := true })) := Lib.hid (by simp [RD.moves, hl])
      have hk := h.keep hf1 hb1
      rw [hd'] at c2
      rw [hl] at c1
      clear hd hd' hl
      go_enter Try.func128, Try.ntmps128
      go_wp2_with fail
      go_ret
      exact ⟨by rw [HE.out]; rfl, by rw [HE.out]; exact hk.moved (h.frq hf1)⟩
    · have hz : (r.fuse == 0) = false := by simpa using hl
      by_cases hp : 0 < r.fuse
      · have HE : Hid (r.moves = (true, { r with fuse := r.fuse - 1, dead := false })) := Lib.hid (by simp [RD.moves, hd', hl, hp])
        have hw : IntKind.i64.wrap (r.fuse - 1) = r.fuse - 1 := wrapi _ (by omega) (by omega)
        have hff := (Fr.refl (· = q) w).setCell q 1 (.int .i64 (r.fuse - 1)) (.inl rfl)
        have hbb : Blk (w.setCell ⟨q, 1, none⟩ (.int .i64 (r.fuse - 1))) q 137 [y.vs, .int .i64 (r.fuse - 1), .bool false] := by
          have := h.blk.set 1 (.int .i64 (r.fuse - 1)); rw [hd'] at this; exact this
        have hk := h.keep hff hbb
        rw [hd'] at c2
        clear hd hd' hl
        go_enter Try.func128, Try.ntmps128
        go_wp2_with fail
        go_ret
        exact ⟨by rw [HE.out]; rfl, by rw [HE.out]; exact hk.moved (h.frq hff)⟩
      · have HE : Hid (r.moves = (true, r)) := Lib.hid (by obtain ⟨a, b, c⟩ := r; simp_all [RD.moves]; intro h; omega)
        rw [hd'] at c2
        clear hd hd' hl
        go_enter Try.func128, Try.ntmps128
        go_wp2_with fail
        go_ret
        exact ⟨by rw [HE.out]; rfl, by rw [HE.out]; exact RMoved.refl h0⟩
theorem RefL.put {w : World} {q gs vc : Nat} {r : RD} {G G' : Nat → Prop} {y : RLay} (h : RefL w q r G y) (hvs : y.vs = .slice (some ⟨gs, 0, none⟩) r.s.length vc) (i : Nat) (x : List UInt8) (a : Option Addr) (c : Nat)
    (hsub : ∀ k, G k → G' k) (hbnd : ∀ k, G' k → k < w.heap.size) (hr : Rd w a (x.map b8)) (hne : ∀ ad, a = some ad → ad.block ≠ q ∧ ad.block ≠ gs ∧ G' ad.block) :
    RefL (w.setCell ⟨gs, i, none⟩ (.slice a x.length c)) q { r with s := r.s.set i x } G' ⟨y.vs, y.cs.set i (.slice a x.length c)⟩ := by
  have hgq : gs ≠ q := fun e => h.dis (by rw [hvs, e]; rfl)
  have f := (Fr.refl (· = gs) w).setCell gs i (.slice a x.length c) (.inl rfl)
  have hrow := h.row
  rw [hvs] at hrow
  have hst := (World.ownsRow.stored hrow i (.slice a x.length c)).1
  refine ⟨?_, ?_, ?_, h.dis, ⟨hsub _ h.cov.1, fun k hk => hsub k (h.cov.2 k hk)⟩, fun k hk => Nat.lt_of_lt_of_le (hbnd k hk) f.size⟩
  · exact h.blk.other hgq _ _
  · show World.ownsRow _ 0 141 1 y.vs (r.s.set i x).length _
    rw [List.length_set, hvs]; exact hst
  · intro k hk hk'
    simp only [List.length_set] at hk hk'
    by_cases hki : i = k
    · subst hki
      simp only [List.getElem_set_self]
      refine ⟨a, c, rfl, f.rd hr (fun ad ha e => (hne ad ha).2.1 e), fun ad ha => ⟨(hne ad ha).1, ?_, (hne ad ha).2.2⟩⟩
      rw [hvs]
      intro e
      simp [Value.ownBlock] at e
      exact (hne ad ha).2.1 e.symm
    · simp only [List.getElem_set_ne hki]
      obtain ⟨a', c', hv, hr', hb'⟩ := h.each k hk hk'
      exact ⟨a', c', hv, f.rd hr' (fun ad ha e => (hb' ad ha).2.1 (by rw [hvs, e]; rfl)), fun ad ha => ⟨(hb' ad ha).1, (hb' ad ha).2.1, hsub _ (hb' ad ha).2.2⟩⟩
def RD.settle (r : RD) (i : Nat) (c : UInt8) : RD := { r with s := r.s.set i [c] }
theorem settle_any (q : Nat) (r : RD) (G : Nat → Prop) (i : Nat) (c : UInt8) (w : World) (h : RefAt w q r G) (hi : i < r.s.length) :
    Calls Try.prog 129 #[.pointer (some ⟨q, 0, none⟩), .int .i64 i, .int .u8 (n8 c)] w fun e w' => e = .returned (.tuple #[]) ∧ RMoved q (r.settle i c) G w w' := by
  obtain ⟨y, h⟩ := h
  obtain ⟨gs, vc, a, ac, hvs, hc, -, hgq⟩ := h.at i hi
  have c0 := h.cells.1
  rw [hvs] at c0
  have gA : GB w (w.alloc (.cells #[.int .u8 (n8 c)] 5)) := (Below.refl _ _).alloc (Nat.le_refl _) _
  have hB := Blk.new w [b8 c] 5
  change Blk (w.alloc (.cells #[.int .u8 (n8 c)] 5)) _ _ _ at hB
  have h1 := h.gb gA
  have hc1 := gA.cell hc
  have nf : ∀ j, (w.alloc (.cells #[.int .u8 (n8 c)] 5)).frozen? ⟨gs, j, none⟩ = false := fun j => by
    have hrow := h1.row
    rw [hvs] at hrow
    exact World.ownsRow.frozenAt hrow j
  go_enter Try.func129, Try.ntmps129
  go_wp2_with fail
  refine bodyPost_end (results_none rfl _ _ _) rfl ?_
  have hlt := hB.lt
  have hqw := h.bnd q h.cov.1
  have hgw := h.bnd gs (h.cov.2 gs (by rw [hvs]; rfl))
  have hk := h1.put hvs i [c] (some ⟨w.heap.size, 0, none⟩) 1 (G' := fun k => G k ∨ k = w.heap.size) (fun k hk => .inl hk) (fun k hk => by
    rcases hk with h' | h'
    · have := h1.bnd k h'; exact this
    · omega) (by simpa using hB.rd 0) (fun ad ha => by cases ha; exact ⟨by show w.heap.size ≠ q; omega, by show w.heap.size ≠ gs; omega, .inr rfl⟩)
  refine ⟨rfl, fun k => G k ∨ k = w.heap.size, ⟨_, hk⟩, (Fr.of_gb gA).setCell _ _ _ (.inl (h.cov.2 gs (by rw [hvs]; rfl))), fun k hk => ?_⟩
  rcases hk with h' | h'
  · exact .inl h'
  · exact .inr (by omega)
end Go.Proofs.Ytiihllfjlgbfcaa
