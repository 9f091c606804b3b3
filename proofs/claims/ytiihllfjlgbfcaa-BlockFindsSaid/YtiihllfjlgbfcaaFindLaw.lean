/- The walk of the law BlockFinds. -/
import Derived.Test.YtiihllfjlgbfcaaNCopy
import Derived.Deep.CutBlock
import Derived.Deep.DeepCutAuto
namespace Go.Proofs.Ytiihllfjlgbfcaa
open Go.RowKit
theorem sameN_self (k : Int) (b : UInt64) (ks vs : List UInt64) : sameN k b ks vs k b ks vs = true := by simp [sameN]
theorem rises_lt : ∀ (l : List UInt64), rises l = true → ∀ i j (_ : i < j) (hj : j < l.length), l[i] < l[j]
  | [], _, i, j, _, hj => absurd hj (by simp)
  | [x], _, i, j, h, hj => absurd hj (by simp; omega)
  | x :: y :: l, h, i, j, hij, hj => by
    simp only [rises, Bool.and_eq_true, decide_eq_true_eq] at h
    have ih := rises_lt (y :: l) h.2
    match i, j with
    | 0, 0 => omega
    | 0, 1 => exact h.1
    | 0, j + 2 =>
      have := ih 0 (j + 1) (by omega) (by simpa using hj)
      simp only [List.getElem_cons_zero, List.getElem_cons_succ] at this ⊢
      exact UInt64.lt_trans h.1 this
    | i + 1, 0 => omega
    | i + 1, j + 1 =>
      have := ih i j (by omega) (by simpa using hj)
      simpa using this
def inc64 (k : Nat) (l : List UInt64) : List UInt64 := (l.take k).map (· + 1) ++ l.drop k
theorem inc64_length (k : Nat) (l : List UInt64) : (inc64 k l).length = l.length := by simp [inc64]; omega
theorem inc64_zero (l : List UInt64) : inc64 0 l = l := by simp [inc64]
theorem inc64_at (k : Nat) (l : List UInt64) (h : k < l.length) : (inc64 k l)[k]'(by rw [inc64_length]; exact h) = l[k] := by
  simp [inc64, Nat.min_eq_left (Nat.le_of_lt h)]
theorem inc64_succ (k : Nat) (l : List UInt64) (h : k < l.length) : (inc64 k l).set k (l[k] + 1) = inc64 (k + 1) l := by
  apply List.ext_getElem
  · simp [inc64_length]
  · intro i h1 h2
    simp only [List.length_set, inc64_length] at h1
    simp only [inc64, List.getElem_set, List.getElem_append, List.length_map, List.length_take, List.getElem_map, List.getElem_take, List.getElem_drop]
    by_cases hik : k = i
    · subst hik; simp; omega
    · by_cases hlt : i < k
      · simp [hik, show i < min k l.length by omega, show i < min (k + 1) l.length by omega]
      · have e : k + (i - min k l.length) = k + 1 + (i - min (k + 1) l.length) := by omega
        simp only [hik, if_false, show ¬ i < min k l.length by omega, show ¬ i < min (k + 1) l.length by omega, dite_false]
        congr 1
theorem inc64_all (l : List UInt64) : inc64 l.length l = l.map (· + 1) := by simp [inc64]
theorem inc64_ne (l : List UInt64) (h : 0 < l.length) : (l.map (· + 1) == l) = false := by
  rw [beq_eq_false_iff_ne]
  intro e
  cases l with
  | nil => simp at h
  | cons a l =>
    simp only [List.map_cons, List.cons.injEq] at e
    have h1 := congrArg UInt64.toNat e.1
    rw [UInt64.toNat_add] at h1
    have := a.toNat_lt
    have h2 : (1 : UInt64).toNat = 1 := rfl
    rw [h2] at h1
    omega
theorem add64_1 (a : UInt64) : IntKind.u64.wrap (n64 a + 1) = n64 (a + 1) := by
  unfold n64
  rw [UInt64.toNat_add]
  have := a.toNat_lt
  have h2 : (1 : UInt64).toNat = 1 := rfl
  rw [h2]
  simp [IntKind.wrap, IntKind.bits, IntKind.signed]
theorem Row64.head {base : Nat} {w : World} {a : Option Addr} {n c : Nat} {l : List UInt64} (h : w.ownsRow base 75 1 (.slice a n c) n (l.map b64)) (hne : 0 < n) : ∃ g, a = some ⟨g, 0, none⟩ ∧ base ≤ g ∧ g < w.heap.size := by
  rcases h.2 with ⟨h1, h0⟩ | ⟨g, cap, cur, h1, hb, hg, _⟩
  · omega
  · cases h1; exact ⟨g, rfl, hb, (Array.getElem?_eq_some_iff.1 hg).1⟩
theorem Row64.cell {base : Nat} {w : World} {g n c : Nat} {l : List UInt64} (h : w.ownsRow base 75 1 (.slice (some ⟨g, 0, none⟩) n c) n (l.map b64)) (j : Nat) (hj : j < l.length) :
    w.cell? ⟨g, j, none⟩ = some (.int .u64 (n64 l[j])) ∧ w.frozen? ⟨g, j, none⟩ = false := by
  have hn : n = l.length := by have := h.1; simp at this; omega
  refine ⟨?_, World.ownsRow.frozenAt h j⟩
  rw [World.ownsRow.cellAt h j (by omega)]
  simp [hj, b64]
theorem Row64.set {base : Nat} {w : World} {g n c : Nat} {l : List UInt64} (h : w.ownsRow base 75 1 (.slice (some ⟨g, 0, none⟩) n c) n (l.map b64)) (j : Nat) (x : UInt64) :
    (w.setCell ⟨g, j, none⟩ (.int .u64 (n64 x))).ownsRow base 75 1 (.slice (some ⟨g, 0, none⟩) n c) n ((l.set j x).map b64) := by
  have h2 := (World.ownsRow.stored h j (b64 x)).1
  rw [List.map_set]
  exact h2
set_option maxHeartbeats 8000000 in
set_option maxRecDepth 100000 in
theorem blockFinds_walk (kind : Int) (birth : UInt64) (ka : Option Addr) (ks : List UInt64) (kc : Nat) (va : Option Addr) (vs : List UInt64) (vc : Nat) (kind2 : Int) (birth2 : UInt64) (ka2 : Option Addr) (ks2 : List UInt64) (kc2 : Nat) (va2 : Option Addr) (vs2 : List UInt64) (vc2 : Nat) (key : UInt64) (w : World)
    (hl1 : ks.length ≤ maxLen) (hl2 : vs.length ≤ maxLen) (hl3 : ks2.length ≤ maxLen) (hl4 : vs2.length ≤ maxLen) (hrk : Rd w ka (ks.map b64)) (hrv : Rd w va (vs.map b64)) (hrk2 : Rd w ka2 (ks2.map b64)) (hrv2 : Rd w va2 (vs2.map b64)) :
    Calls Try.prog 11 #[nodeV kind birth ka ks.length kc va vs.length vc, nodeV kind2 birth2 ka2 ks2.length kc2 va2 vs2.length vc2, .int .u64 (n64 key)] w fun e w' => e = .returned (.bool true) ∧ Below w.heap.size w w' := by
  have hs12 := fun u (hu : GB w u) => bsame_any kind birth ka ks kc va vs vc kind2 birth2 ka2 ks2 kc2 va2 vs2 vc2 u hl1 hl2 hl3 hl4 (hu.rd hrk) (hu.rd hrv) (hu.rd hrk2) (hu.rd hrv2)
  have hr12 := fun u (hu : GB w u) => rsame_any kind birth ka ks kc va vs vc kind2 birth2 ka2 ks2 kc2 va2 vs2 vc2 u hl1 hl2 (hu.rd hrk) (hu.rd hrv) (hu.rd hrk2) (hu.rd hrv2)
  have hs11 := fun u (hu : GB w u) => bsame_any kind birth ka ks kc va vs vc kind birth ka ks kc va vs vc u hl1 hl2 hl1 hl2 (hu.rd hrk) (hu.rd hrv) (hu.rd hrk) (hu.rd hrv)
  rw [sameN_self] at hs11
  have HS12 := Lib.hid hs12
  have HR12 := Lib.hid hr12
  have HS11 := Lib.hid hs11
  clear hs12 hr12 hs11
  unfold nodeV at *
  have hbl := (Blk.new w [.int .i64 kind, .int .u64 (n64 birth), .slice ka ks.length kc, .slice va vs.length vc] 95).alloc (.cells #[.int .i64 kind2, .int .u64 (n64 birth2), .slice ka2 ks2.length kc2, .slice va2 vs2.length vc2] 95)
  have hbo : Blk ((w.alloc (.cells #[.int .i64 kind, .int .u64 (n64 birth), .slice ka ks.length kc, .slice va vs.length vc] 95)).alloc (.cells #[.int .i64 kind2, .int .u64 (n64 birth2), .slice ka2 ks2.length kc2, .slice va2 vs2.length vc2] 95)) (w.heap.size + 1) 95 [.int .i64 kind2, .int .u64 (n64 birth2), .slice ka2 ks2.length kc2, .slice va2 vs2.length vc2] := by
    have := Blk.new (w.alloc (.cells #[.int .i64 kind, .int .u64 (n64 birth), .slice ka ks.length kc, .slice va vs.length vc] 95)) [.int .i64 kind2, .int .u64 (n64 birth2), .slice ka2 ks2.length kc2, .slice va2 vs2.length vc2] 95
    simpa using this
  have hg : GB w ((w.alloc (.cells #[.int .i64 kind, .int .u64 (n64 birth), .slice ka ks.length kc, .slice va vs.length vc] 95)).alloc (.cells #[.int .i64 kind2, .int .u64 (n64 birth2), .slice ka2 ks2.length kc2, .slice va2 vs2.length vc2] 95)) := ((Below.refl _ _).alloc (Nat.le_refl _) _).alloc (by simp) _
  change Blk ((w.alloc (.cells #[.int .i64 kind, .int .u64 (n64 birth), .slice ka ks.length kc, .slice va vs.length vc] 95)).alloc (.cells #[.int .i64 kind2, .int .u64 (n64 birth2), .slice ka2 ks2.length kc2, .slice va2 vs2.length vc2] 95)) _ _ _ at hbl
  go_enter Try.func11, Try.ntmps11
  go_upto_region 1 with fail
  generalize (w.alloc (.cells #[.int .i64 kind, .int .u64 (n64 birth), .slice ka ks.length kc, .slice va vs.length vc] 95)).alloc (.cells #[.int .i64 kind2, .int .u64 (n64 birth2), .slice ka2 ks2.length kc2, .slice va2 vs2.length vc2] 95) = w1 at *
  obtain ⟨c0, c1, c2, c3⟩ := hbl.c4
  obtain ⟨d0, d1, d2, d3⟩ := hbo.c4
  by_cases hbig : 20 < ks.length ∨ 20 < vs.length ∨ 20 < ks2.length ∨ 20 < vs2.length
  · rcases (show 20 < ks.length ∨ (¬ 20 < ks.length ∧ 20 < vs.length) ∨ (¬ 20 < ks.length ∧ ¬ 20 < vs.length ∧ 20 < ks2.length) ∨ (¬ 20 < ks.length ∧ ¬ 20 < vs.length ∧ ¬ 20 < ks2.length ∧ 20 < vs2.length) by omega) with h | ⟨h, h'⟩ | ⟨h, h', h''⟩ | ⟨h, h', h'', h'''⟩
    all_goals
      go_wp2_with fail
      refine (known4_any _).mono ?_
      rintro e w2 ⟨rfl, hb2⟩
      go_wp2_with fail
      go_ret
      exact ⟨rfl, bgb hg hb2 hg.size⟩
  have h1 : ¬ 20 < ks.length := by omega
  have h2 : ¬ 20 < vs.length := by omega
  have h3 : ¬ 20 < ks2.length := by omega
  have h4 : ¬ 20 < vs2.length := by omega
  have C4 : ∀ u, GB w1.drew u → u.cell? ⟨w.heap.size, 0, none⟩ = some (.int .i64 kind) ∧ u.cell? ⟨w.heap.size, 1, none⟩ = some (.int .u64 (n64 birth)) ∧ u.cell? ⟨w.heap.size, 2, none⟩ = some (.slice ka ks.length kc) ∧ u.cell? ⟨w.heap.size, 3, none⟩ = some (.slice va vs.length vc) := fun u hu => ((hbl.gb (GB.drew _)).gb hu).c4
  have D4 : ∀ u, GB w1.drew u → u.cell? ⟨w.heap.size + 1, 0, none⟩ = some (.int .i64 kind2) ∧ u.cell? ⟨w.heap.size + 1, 1, none⟩ = some (.int .u64 (n64 birth2)) ∧ u.cell? ⟨w.heap.size + 1, 2, none⟩ = some (.slice ka2 ks2.length kc2) ∧ u.cell? ⟨w.heap.size + 1, 3, none⟩ = some (.slice va2 vs2.length vc2) := fun u hu => ((hbo.gb (GB.drew _)).gb hu).c4
  have S0' := fun u hu => (C4 u hu).1
  have S1' := fun u hu => (C4 u hu).2.1
  have S2' := fun u hu => (C4 u hu).2.2.1
  have S3' := fun u hu => (C4 u hu).2.2.2
  have R0' := fun u hu => (D4 u hu).1
  have R1' := fun u hu => (D4 u hu).2.1
  have R2' := fun u hu => (D4 u hu).2.2.1
  have R3' := fun u hu => (D4 u hu).2.2.2
  clear C4 D4
  go_wp2_with fail
  clear hbig
  generalize sameN kind birth ks vs kind2 birth2 ks2 vs2 = q at *
  have hnn : (q != q) = false := by simp
  go_upto_region 3 with fail
  have hgd := GB.trans _ _ _ hg (GB.drew w1)
  go_cut [51] (fun s wx => s = .bool false ∧ GB w1 wx)
  case first =>
    refine region_gb [(0,0),(1,0),(3,0),(4,0),(2,1),(5,1),(6,0),(7,0),(8,0),(9,0),(10,1),(11,0),(12,0)] [] (by kernel_rfl) ?_
    iterate 4 (refine S0w (v := ?_) (by rfl) (by rfl) (fun u hu N hN => ?_) ?_; rotate_left; (go_simp; exact hN); simp only [Act.put, List.setIfInBounds_toArray, List.set_cons_zero, List.set_cons_succ])
    refine S1 (by rfl) (by rfl) (fun K hK => ?_)
    go_wp2_with fail
    refine (HS12.out _ hgd).mono ?_
    rintro e w2 ⟨rfl, hb2⟩
    refine hK _ _ hb2 ?_
    clear hK K
    have hg2 := GB.trans _ _ _ hgd hb2
    refine S1 (by rfl) (by rfl) (fun K hK => ?_)
    go_wp2_with fail
    refine (HR12.out _ hg2).mono ?_
    rintro e w3 ⟨rfl, hb3⟩
    refine hK _ _ hb3 ?_
    clear hK K
    have hg3 := GB.trans _ _ _ hg2 hb3
    have gg := GB.trans _ _ _ hb2 hb3
    replace S0' := fun u (hu : GB w3 u) => S0' u (gg.trans _ _ _ hu)
    replace S1' := fun u (hu : GB w3 u) => S1' u (gg.trans _ _ _ hu)
    replace S2' := fun u (hu : GB w3 u) => S2' u (gg.trans _ _ _ hu)
    replace S3' := fun u (hu : GB w3 u) => S3' u (gg.trans _ _ _ hu)
    iterate 4 (refine S0w (v := ?_) (by rfl) (by rfl) (fun u hu N hN => ?_) ?_; rotate_left; (go_simp; exact hN); simp only [Act.put, List.setIfInBounds_toArray, List.set_cons_zero, List.set_cons_succ])
    refine S1 (by rfl) (by rfl) (fun K hK => ?_)
    go_wp2_with fail
    refine (HS11.out _ hg3).mono ?_
    rintro e w4 ⟨rfl, hb4⟩
    refine hK _ _ hb4 ?_
    clear hK K
    repeat (refine S0w (v := ?_) (by rfl) (by rfl) (fun u hu N hN => ?_) ?_; rotate_left; (go_simp; exact hN); simp only [Act.put, List.setIfInBounds_toArray, List.set_cons_zero, List.set_cons_succ])
    refine S.done ?_
    go_wp2_with fail
    go_meet
    case rel => exact ⟨rfl, GB.trans _ _ _ (GB.drew w1) (GB.trans _ _ _ gg hb4)⟩
  case rest =>
    clear S0' S1' S2' S3' R0' R1' R2' R3' HS12 HR12 c0 c1 c2 c3 d0 d1 d2 d3 hnn
    obtain ⟨rfl, hgc⟩ := hcut
    obtain ⟨wb, hwb⟩ : ∃ x, x = wc.heap.size := ⟨_, rfl⟩
    have hbl2 := hbl.gb hgc
    have hlw := hbl2.lt
    have hg2 := GB.trans _ _ _ hg hgc
    clear hbl hbo hgd hgc hg
    obtain ⟨c0, c1, c2, c3⟩ := hbl2.c4
    have HWB := Lib.hid hwb
    clear hwb
    have hcp := copy_any kind birth ka ks kc va vs vc wc (by omega) (by omega) (hrk.below hg2) (hrv.below hg2)
    unfold nodeV at hcp
    go_wp2_with fail
    refine hcp.mono ?_
    rintro e w3 ⟨x, y, rfl, hx, hy, hdis, hb3⟩
    have hxl := hx.lt
    have hyl := hy.lt
    obtain ⟨xa, xc, rfl, hxr, -, -, -, -⟩ := Row.shape hx
    obtain ⟨ya, yc, rfl, hyr, -, -, -, -⟩ := Row.shape hy
    have hbl3 := hbl2.gb hb3
    have hg3 := GB.trans _ _ _ hg2 hb3
    have hN3 := Blk.new w3 [.int .i64 0, .int .u64 0, .slice none 0 0, .slice none 0 0] 95
    have hb4 : GB w3 (w3.alloc (.cells #[.int .i64 0, .int .u64 0, .slice none 0 0, .slice none 0 0] 95)) := (Below.refl _ _).alloc (Nat.le_refl _) _
    change Blk (w3.alloc (.cells #[.int .i64 0, .int .u64 0, .slice none 0 0, .slice none 0 0] 95)) _ _ _ at hN3
    clear hcp c0 c1 c2 c3 hbl2
    go_wp2_with (first | with_reducible refine halt_store 95 ?_)
    refine L.storeS (vs := [.int .i64 kind, .int .u64 (n64 birth), .slice xa ks.length xc, .slice ya vs.length yc]) rfl info95 (by rfl) (by rfl) hN3 rfl rfl (by simp [Value.oneCell']) (by rfl) ?_
    intro w5 hN5 hG5
    simp only [Act.put]
    have f5 : Fr (fun _ => False) w3 w5 := (Fr.of_gb hb4).grown hG5 (fun j hj => .inr (by cases hj; omega))
    have hbl5 := f5.blk hbl3 (fun h => h)
    have hx5 := f5.row hx (fun _ _ h => h)
    have hy5 := f5.row hy (fun _ _ h => h)
    have hg5 : GB w w5 := Below.trans hg3 (f5.below (B := w.heap.size) (fun _ _ h => h.elim) hg3.size)
    have hs5 := hN5.lt
    have hsc := hlw
    clear hN3 hb4 hG5 f5 hbl3 hx hy hxr hyr
    obtain ⟨c0, c1, c2, c3⟩ := hbl5.c4
    obtain ⟨d0, d1, d2, d3⟩ := hN5.c4
    have hrs := rsame_any kind birth xa ks xc ya vs yc kind birth ka ks kc va vs vc w5 hl1 hl2 (Row.rd hx5).1 (Row.rd hy5).1 (hrk.below hg5) (hrv.below hg5)
    rw [sameN_self] at hrs
    unfold nodeV at hrs
    go_wp2_with fail
    refine hrs.mono ?_
    rintro e w6 ⟨rfl, hb6⟩
    have hbl6 := hbl5.gb hb6
    have hN6 := hN5.gb hb6
    have hx6 := Row.gb hx5 hb6
    have hy6 := Row.gb hy5 hb6
    have hg6 := GB.trans _ _ _ hg5 hb6
    have hs6 := hb6.size
    clear c0 c1 c2 c3 d0 d1 d2 d3 hrs hbl5 hN5 hx5 hy5 hg5 hb6
    obtain ⟨c0, c1, c2, c3⟩ := hbl6.c4
    go_upto_block 0 with fail
    go_cut [8] (fun s wx => s = .bool (rises ks) ∧ GB w6 wx)
    case first =>
      clear c0 c1 c2 c3
      go_wp2_with fail
      go_loopw [8, 9] (fun b x wr => ∃ m : Nat, x = .int .i64 m ∧ 1 ≤ m ∧ (m = 1 ∨ m ≤ ks.length) ∧ b = .bool (rises (ks.take m)) ∧ GB w6 wr) (fun _ x _ => ks.length - (intOf x).toNat)
      case atStart => exact ⟨1, rfl, by omega, by omega, by cases ks <;> simp [rises], GB.refl _⟩
      case round =>
        obtain ⟨m, rfl, hm1, hk, rfl, hb⟩ := hrel
        have hB := hbl6.gb hb
        have hc2 := hB.cell 2
        by_cases hlt : m < ks.length
        · obtain ⟨k, hkm⟩ : ∃ k, m = k + 1 := ⟨m - 1, by omega⟩
          have hk' : k < ks.length := by omega
          have hgr := GB.trans _ _ _ hg6 hb
          obtain ⟨ad, rfl, hc⟩ := (hrk.below hgr) k (by simpa using hk')
          obtain ⟨ad', he, hc'⟩ := (hrk.below hgr) m (by simpa using hlt)
          cases he
          simp only [List.getElem_map, b64] at hc hc'
          have C0 : ∀ u, GB wr.drew u → u.cell? (ad.add k) = some (.int .u64 (n64 ks[k])) := fun u hu => hu.cell hc
          have C1 : ∀ u, GB wr.drew u → u.cell? (ad.add m) = some (.int .u64 (n64 ks[m])) := fun u hu => hu.cell hc'
          have C2 : ∀ u, GB wr.drew u → u.cell? ⟨w.heap.size, 2, none⟩ = some (.slice (some ad) ks.length kc) := fun u hu => hu.cell (hc2.trans rfl)
          have e1 : IntKind.i64.wrap ((m : Int) - 1) = k := by rw [wrapi _ (by omega) (by omega)]; omega
          have hT : Hid (rises (ks.take (m + 1)) = (rises (ks.take m) && decide (ks[k] < ks[m]))) := by
            subst hkm; exact Lib.hid (rises_take ks k hlt)
          have HK := Lib.hid hkm
          have hq := lt64 ks[k] ks[m]
          clear hkm
          generalize rises (ks.take m) = r at *
          generalize decide (ks[k] < ks[m]) = q2 at *
          cases r
          all_goals
            go_wp2_with fail
            refine region_gb [(0,0),(1,0),(2,0),(3,0),(4,0),(5,0),(6,0),(7,0),(8,0),(9,0),(10,0),(11,0),(12,0),(13,0),(14,0),(15,0)] [] (by kernel_rfl) ?_
            repeat (first
              | (refine S0w (v := ?_) (by rfl) (by rfl) (fun u hu N hN => ?_) ?_; rotate_left; (go_simp; exact hN); simp only [Act.put, List.setIfInBounds_toArray, List.set_cons_zero, List.set_cons_succ])
              | (refine S0n (by rfl) (by rfl) ?_; simp only [Act.put, List.setIfInBounds_toArray, List.set_cons_zero, List.set_cons_succ]))
            refine S.done ?_
            go_wp2_with fail
            go_roundw
            case rel => exact ⟨m + 1, by go_num, by omega, by omega, by rw [hT.out]; rfl, GB.trans _ _ _ hb (GB.drew _)⟩
            case measure => simp [intOf]; omega
        · go_wp2_with fail
          go_meet
          case rel => exact ⟨by rw [List.take_of_length_le (by omega)], hb⟩
    case rest =>
      obtain ⟨rfl, hgc⟩ := hcut
      have hbl7 := hbl6.gb hgc
      have hN7 := hN6.gb hgc
      have hx7 := Row.gb hx6 hgc
      have hy7 := Row.gb hy6 hgc
      have hg7 := GB.trans _ _ _ hg6 hgc
      have hs7 := hgc.size
      clear c0 c1 c2 c3 hbl6 hN6 hx6 hy6 hg6 hgc
      generalize hrr : rises ks = rr at *
      have HRR := Lib.hid hrr
      clear hrr
      obtain ⟨c0, c1, c2, c3⟩ := hbl7.c4
      go_upto_block 2 with fail
      go_cut [10] (fun s wx => ∃ a : Nat, s = .int .i64 a ∧ a ≤ ks.length ∧ Hid (∀ i (h : i < ks.length), i < a → ks[i] < key) ∧ Hid (∀ h : a < ks.length, ¬ ks[a] < key) ∧ wc = wx)
      case first =>
        go_wp2_with fail
        go_loopw [10] (fun x wr => ∃ a : Nat, x = .int .i64 a ∧ a ≤ ks.length ∧ Hid (∀ i (h : i < ks.length), i < a → ks[i] < key) ∧ wc = wr) (fun x _ => ks.length - (intOf x).toNat)
        case atStart => exact ⟨0, rfl, by omega, Lib.hid (fun i _ h => absurd h (by omega)), rfl⟩
        case round =>
          obtain ⟨a, rfl, ha, hlo, rfl⟩ := hrel
          by_cases hlt : a < ks.length
          · obtain ⟨ad, rfl, hc⟩ := (hrk.below hg7) a (by simpa using hlt)
            simp only [List.getElem_map, b64] at hc
            by_cases hq0 : ks[a] < key
            · have hq : decide (n64 ks[a] < n64 key) = true := by rw [lt64]; simp [hq0]
              have HQ := Lib.hid hq0
              clear hq0
              go_wp2_with fail
              refine ⟨⟨a + 1, by go_num, by omega, Lib.hid (fun i hi hia => ?_), trivial⟩, by simp [intOf]; omega⟩
              by_cases e : i = a
              · subst e; exact HQ.out
              · exact hlo.out i hi (by omega)
            · have hq : decide (n64 ks[a] < n64 key) = false := by rw [lt64]; simp [hq0]
              have HQ := Lib.hid hq0
              clear hq0
              go_wp2_with fail
              go_meet
              case rel => exact ⟨a, rfl, ha, hlo, Lib.hid (fun _ => HQ.out), rfl⟩
          · go_wp2_with fail
            go_meet
            case rel => exact ⟨a, rfl, ha, hlo, Lib.hid (fun h => absurd h hlt), rfl⟩
      case rest =>
        obtain ⟨a, rfl, ha, hlo, hhi, rfl⟩ := hcut
        go_upto_region 16 with fail
        go_cut [11] (fun s wx => s = .bool (ks[a]? == some key) ∧ wc = wx)
        case first =>
          by_cases hlt : a < ks.length
          · obtain ⟨ad, rfl, hc⟩ := (hrk.below hg7) a (by simpa using hlt)
            simp only [List.getElem_map, b64] at hc
            have hr : (ks[a]? == some key) = (ks[a] == key) := by simp [hlt]
            have hq := n64_beq ks[a] key
            have HR := Lib.hid hr
            clear hr
            generalize (ks[a] == key) = q3 at *
            go_wp2_with fail
            go_meet
            case rel => exact ⟨by rw [HR.out], rfl⟩
          · have hr : (ks[a]? == some key) = false := by simp [hlt]
            have HR := Lib.hid hr
            clear hr
            go_wp2_with fail
            go_meet
            case rel => exact ⟨by rw [HR.out], rfl⟩
        case rest =>
          obtain ⟨rfl, rfl⟩ := hcut
          generalize hq4 : (ks[a]? == some key) = q4 at *
          have HQ4 := Lib.hid hq4
          clear hq4
          go_upto_if 110 with fail
          go_cut [12] (fun _ wx => GB wc wx)
          case first =>
            cases rr
            · go_wp2_with fail
              go_meet
              case rel => exact GB.refl _
            · have hf := find_any kind birth ka ks kc va vs.length vc key a q4 HQ4.out wc (by omega) (hrk.below hg7) ha hlo.out (fun i h hi hlt => by
                by_cases e : a = i
                · subst e; exact hhi.out h hlt
                · exact hhi.out (by omega) (UInt64.lt_trans (rises_lt ks HRR.out a i (by omega) h) hlt))
              unfold nodeV at hf
              have hqq : (q4 != q4) = false := by simp
              have haa : ((a : Int) != (a : Int)) = false := by simp
              go_wp2_with fail
              refine hf.mono ?_
              rintro e w8 ⟨rfl, hb8⟩
              go_wp2_with fail
              go_meet
              case rel => exact hb8
          case rest =>
            have hbl8 := hbl7.gb hcut
            have hN8 := hN7.gb hcut
            have hx8 := Row.gb hx7 hcut
            have hy8 := Row.gb hy7 hcut
            rw [← HWB.out] at hx8 hy8
            have hg8 := GB.trans _ _ _ hg7 hcut
            have hs8 := Below.size hcut
            rw [← HWB.out] at hxl hyl hsc
            clear c0 c1 c2 c3 hbl7 hN7 hx7 hy7 hg7 hcut HQ4 hlo hhi HRR
            go_upto_block 4 with fail
            go_cut [14] (fun _ wx => Blk wx w.heap.size 95 [.int .i64 kind, .int .u64 (n64 birth), .slice ka ks.length kc, .slice va vs.length vc] ∧ Blk wx w3.heap.size 95 [.int .i64 kind, .int .u64 (n64 birth), .slice xa ks.length xc, .slice ya vs.length yc] ∧
                wx.ownsRow wb 75 1 (.slice xa ks.length xc) ks.length ((ks.map (· + 1)).map b64) ∧ wx.ownsRow wb 75 1 (.slice ya vs.length yc) vs.length (vs.map b64) ∧ GB w wx)
            case first =>
              go_wp2_with fail
              go_loopw [14] (fun i wr => ∃ k : Nat, i = .int .i64 k ∧ k ≤ ks.length ∧ Blk wr w.heap.size 95 [.int .i64 kind, .int .u64 (n64 birth), .slice ka ks.length kc, .slice va vs.length vc] ∧ Blk wr w3.heap.size 95 [.int .i64 kind, .int .u64 (n64 birth), .slice xa ks.length xc, .slice ya vs.length yc] ∧
                wr.ownsRow wb 75 1 (.slice xa ks.length xc) ks.length ((inc64 k ks).map b64) ∧ wr.ownsRow wb 75 1 (.slice ya vs.length yc) vs.length (vs.map b64) ∧ GB w wr) (fun i _ => ks.length - (intOf i).toNat)
              case atStart => exact ⟨0, rfl, by omega, hbl8, hN8, by rw [inc64_zero]; exact hx8, hy8, hg8⟩
              case round =>
                obtain ⟨k, rfl, hk, hbl, hN, hx, hy, hg⟩ := hrel
                obtain ⟨d0, d1, d2, d3⟩ := hN.c4
                by_cases hlt : k < ks.length
                · obtain ⟨g, rfl, hg1, hg2'⟩ := Row64.head hx (by omega)
                  have hgl := hxl g rfl
                  obtain ⟨hc, hfz⟩ := Row64.cell hx k (by rw [inc64_length]; exact hlt)
                  rw [inc64_at k ks hlt] at hc
                  have hset := Row64.set hx k (ks[k] + 1)
                  rw [inc64_succ k ks hlt] at hset
                  have hadd := add64_1 ks[k]
                  have hbl' := hbl.other (k := g) (by omega) k (.int .u64 (n64 (ks[k] + 1)))
                  have hN' := hN.other (k := g) (by omega) k (.int .u64 (n64 (ks[k] + 1)))
                  have hy' := World.ownsRow.kept hy (grown_cell wr g k (.int .u64 (n64 (ks[k] + 1)))) (by
                    cases hv : (Value.slice ya vs.length yc).ownBlock with
                    | none => exact .inl rfl
                    | some j => exact .inr fun h => by cases h; exact hdis g rfl hv)
                  have hg' : GB w (wr.setCell ⟨g, k, none⟩ (.int .u64 (n64 (ks[k] + 1)))) := Below.setCell hg (show w.heap.size ≤ (⟨g, k, none⟩ : Addr).block by show _ ≤ g; omega) _
                  generalize ks[k] = x at *
                  go_wp2_with fail
                  go_roundw
                  case rel => exact ⟨k + 1, by go_num, by omega, hbl', hN', hset, hy', hg'⟩
                  case measure => simp [intOf]; omega
                · obtain rfl : k = ks.length := by omega
                  rw [inc64_all] at hx
                  go_wp2_with fail
                  go_meet
                  case rel => exact ⟨hbl, hN, hx, hy, hg⟩
            case rest =>
              obtain ⟨hbl9, hN9, hx9, hy9, hg9⟩ := hcut
              go_upto_block 6 with fail
              go_cut [15] (fun _ wx => Blk wx w.heap.size 95 [.int .i64 kind, .int .u64 (n64 birth), .slice ka ks.length kc, .slice va vs.length vc] ∧ Blk wx w3.heap.size 95 [.int .i64 kind, .int .u64 (n64 birth), .slice xa ks.length xc, .slice ya vs.length yc] ∧
                  wx.ownsRow wb 75 1 (.slice xa ks.length xc) ks.length ((ks.map (· + 1)).map b64) ∧ wx.ownsRow wb 75 1 (.slice ya vs.length yc) vs.length ((vs.map (· + 1)).map b64) ∧ GB w wx)
              case first =>
                go_wp2_with fail
                go_loopw [15] (fun i wr => ∃ k : Nat, i = .int .i64 k ∧ k ≤ vs.length ∧ Blk wr w.heap.size 95 [.int .i64 kind, .int .u64 (n64 birth), .slice ka ks.length kc, .slice va vs.length vc] ∧ Blk wr w3.heap.size 95 [.int .i64 kind, .int .u64 (n64 birth), .slice xa ks.length xc, .slice ya vs.length yc] ∧
                  wr.ownsRow wb 75 1 (.slice xa ks.length xc) ks.length ((ks.map (· + 1)).map b64) ∧ wr.ownsRow wb 75 1 (.slice ya vs.length yc) vs.length ((inc64 k vs).map b64) ∧ GB w wr) (fun i _ => vs.length - (intOf i).toNat)
                case atStart => exact ⟨0, rfl, by omega, hbl9, hN9, hx9, by rw [inc64_zero]; exact hy9, hg9⟩
                case round =>
                  obtain ⟨k, rfl, hk, hbl, hN, hx, hy, hg⟩ := hrel
                  obtain ⟨d0, d1, d2, d3⟩ := hN.c4
                  by_cases hlt : k < vs.length
                  · obtain ⟨g, rfl, hg1, hg2'⟩ := Row64.head hy (by omega)
                    have hgl := hyl g rfl
                    obtain ⟨hc, hfz⟩ := Row64.cell hy k (by rw [inc64_length]; exact hlt)
                    rw [inc64_at k vs hlt] at hc
                    have hset := Row64.set hy k (vs[k] + 1)
                    rw [inc64_succ k vs hlt] at hset
                    have hadd := add64_1 vs[k]
                    have hbl' := hbl.other (k := g) (by omega) k (.int .u64 (n64 (vs[k] + 1)))
                    have hN' := hN.other (k := g) (by omega) k (.int .u64 (n64 (vs[k] + 1)))
                    have hy' := World.ownsRow.kept hx (grown_cell wr g k (.int .u64 (n64 (vs[k] + 1)))) (by
                      cases hv : (Value.slice xa ks.length xc).ownBlock with
                      | none => exact .inl rfl
                      | some j => exact .inr fun h => by cases h; exact hdis g hv rfl)
                    have hg' : GB w (wr.setCell ⟨g, k, none⟩ (.int .u64 (n64 (vs[k] + 1)))) := Below.setCell hg (show w.heap.size ≤ (⟨g, k, none⟩ : Addr).block by show _ ≤ g; omega) _
                    generalize vs[k] = x at *
                    go_wp2_with fail
                    go_roundw
                    case rel => exact ⟨k + 1, by go_num, by omega, hbl', hN', hy', hset, hg'⟩
                    case measure => simp [intOf]; omega
                  · obtain rfl : k = vs.length := by omega
                    rw [inc64_all] at hy
                    go_wp2_with fail
                    go_meet
                    case rel => exact ⟨hbl, hN, hx, hy, hg⟩
              case rest =>
                obtain ⟨hbl10, hN10, hx10, hy10, hg10⟩ := hcut
                obtain ⟨c0, c1, c2, c3⟩ := hbl10.c4
                obtain ⟨d0, d1, d2, d3⟩ := hN10.c4
                have hsm := bsame_any kind birth xa (ks.map (· + 1)) xc ya (vs.map (· + 1)) yc kind birth ka ks kc va vs vc wc (by simpa using hl1) (by simpa using hl2) hl1 hl2 (Row.rd hx10).1 (Row.rd hy10).1 (hrk.below hg10) (hrv.below hg10)
                simp only [List.length_map] at hsm
                by_cases hz : ks.length = 0 ∧ vs.length = 0
                · have hke : ks = [] := List.eq_nil_of_length_eq_zero hz.1
                  have hve : vs = [] := List.eq_nil_of_length_eq_zero hz.2
                  have hst : sameN kind birth (ks.map (· + 1)) (vs.map (· + 1)) kind birth ks vs = true := by rw [hke, hve]; simp [sameN]
                  have he : ((ks.length : Int) + (vs.length : Int) == 0) = true := by simp [hz.1, hz.2]
                  rw [hst] at hsm
                  unfold nodeV at hsm
                  clear hst hke hve hz
                  go_wp2_with fail
                  refine hsm.mono ?_
                  rintro e w11 ⟨rfl, hb11⟩
                  go_wp2_with fail
                  refine (known4_any _).mono ?_
                  rintro e w12 ⟨rfl, hb12⟩
                  go_wp2_with fail
                  go_ret
                  exact ⟨rfl, GB.trans _ _ _ hg10 (GB.trans _ _ _ hb11 hb12)⟩
                · have hst : sameN kind birth (ks.map (· + 1)) (vs.map (· + 1)) kind birth ks vs = false := by
                    unfold sameN
                    by_cases hk0 : ks.length = 0
                    · rw [inc64_ne vs (by omega)]; simp
                    · rw [inc64_ne ks (by omega)]; simp
                  have he : ((ks.length : Int) + (vs.length : Int) == 0) = false := by rw [beq_eq_false_iff_ne]; omega
                  have hgt : decide (0 < (ks.length : Int) + (vs.length : Int)) = true := by rw [decide_eq_true_eq]; omega
                  rw [hst] at hsm
                  unfold nodeV at hsm
                  clear hst hz
                  go_wp2_with fail
                  obtain ⟨c0, c1, c2, c3⟩ := hbl10.c4
                  refine hsm.mono ?_
                  rintro e w11 ⟨rfl, hb11⟩
                  go_wp2_with fail
                  refine (known4_any _).mono ?_
                  rintro e w12 ⟨rfl, hb12⟩
                  go_wp2_with fail
                  go_ret
                  exact ⟨rfl, GB.trans _ _ _ hg10 (GB.trans _ _ _ hb11 hb12)⟩
end Go.Proofs.Ytiihllfjlgbfcaa
