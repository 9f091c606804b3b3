/- The walks of the reference's Do, further: a flush, a write. -/
import Derived.Test.YtiihllfjlgbfcaaRDo
namespace Go.Proofs.Ytiihllfjlgbfcaa
open Go.RowKit
set_option maxHeartbeats 4000000 in
set_option maxRecDepth 100000 in
theorem do2_any (q : Nat) (r : RD) (G : Nat → Prop) (n : Int) (c : UInt8) (pa : Option Addr) (np pc : Nat) (ps : List Int) (w : World) (h : RefAt w q r G) (hg : RGood r) :
    Calls Try.prog 87 #[.pointer (some ⟨q, 0, none⟩), .agg #[.int .i64 2, .int .i64 n, .int .u8 (n8 c), .slice pa np pc]] w (DoPost q r ⟨2, n, c, ps⟩ G w) := by
  have h0 := h
  obtain ⟨y, hr⟩ := h
  have gA : GB w (w.alloc (.cells #[.int .i64 2, .int .i64 n, .int .u8 (n8 c), .slice pa np pc] 122)) := (Below.refl _ _).alloc (Nat.le_refl _) _
  have hX := Blk.new w [.int .i64 2, .int .i64 n, .int .u8 (n8 c), .slice pa np pc] 122
  change Blk (w.alloc (.cells #[.int .i64 2, .int .i64 n, .int .u8 (n8 c), .slice pa np pc] 122)) _ _ _ at hX
  have hr1 := hr.gb gA
  have hfew := hg.few
  have hG := Lib.hid hg
  clear hg
  obtain ⟨va, vc, hva, -, -, -, -, -⟩ := Row.shape hr.row
  go_enter Try.func87, Try.ntmps87
  go_upto_region 1 with fail
  generalize w.alloc (.cells #[.int .i64 2, .int .i64 n, .int .u8 (n8 c), .slice pa np pc] 122) = w1 at *
  have hXd := hX.gb (GB.drew w1)
  have hrd := hr1.blk.gb (GB.drew w1)
  rw [hva] at hrd
  have C0 : ∀ u, GB w1.drew u → u.cell? ⟨q, 0, none⟩ = some (.slice va r.s.length vc) := fun u hu => (hrd.gb hu).cell 0
  have C1 : ∀ u, GB w1.drew u → u.cell? ⟨w.heap.size, 1, none⟩ = some (.int .i64 n) := fun u hu => (hXd.gb hu).cell 1
  have HVA := Lib.hid hva
  clear hva hrd
  go_cut [5] (fun s wx => s = .bool (r.there n) ∧ GB w1 wx)
  case first =>
    by_cases h1 : 0 ≤ n
    · have q1 : decide (0 ≤ n) = true := by simpa using h1
      obtain ⟨q2, hq2⟩ : ∃ q2, decide (n < (r.s.length : Int)) = q2 := ⟨_, rfl⟩
      have HT : Hid (r.there n = q2) := Lib.hid (by unfold RD.there; rw [q1, hq2, Bool.true_and])
      refine region_gb [(0,0),(1,0),(2,0),(3,0),(4,0),(5,0),(6,0),(7,0),(8,0),(9,0),(10,0),(11,0),(12,0),(13,0)] [] (by kernel_rfl) ?_
      repeat (refine S0w (v := ?_) (by rfl) (by rfl) (fun u hu N hN => ?_) ?_; rotate_left; (go_simp; exact hN); simp only [Act.put, List.setIfInBounds_toArray, List.set_cons_zero, List.set_cons_succ])
      refine S.done ?_
      go_wp2_with fail
      go_meet
      case rel => exact ⟨by rw [HT.out], GB.drew w1⟩
    · have q1 : decide (0 ≤ n) = false := by simpa using h1
      have HT : Hid (r.there n = false) := Lib.hid (by unfold RD.there; rw [q1, Bool.false_and])
      refine region_gb [(0,0),(1,0),(2,0),(3,0),(4,0),(5,0),(6,0),(7,0),(8,0),(9,0),(10,0),(11,0),(12,0),(13,0)] [] (by kernel_rfl) ?_
      repeat (first
        | (refine S0w (v := ?_) (by rfl) (by rfl) (fun u hu N hN => ?_) ?_; rotate_left; (go_simp; exact hN); simp only [Act.put, List.setIfInBounds_toArray, List.set_cons_zero, List.set_cons_succ])
        | (refine S0n (by rfl) (by rfl) ?_; simp only [Act.put, List.setIfInBounds_toArray, List.set_cons_zero, List.set_cons_succ]))
      refine S.done ?_
      go_wp2_with fail
      go_meet
      case rel => exact ⟨by rw [HT.out], GB.drew w1⟩
  case rest =>
    obtain ⟨rfl, hgc⟩ := hcut
    have hX2 := hX.gb hgc
    have hr2 := hr1.gb hgc
    have hgw : GB w wc := GB.trans _ _ _ gA hgc
    have hr2b := hr2.blk
    have hm0 : RMoved q r G w wc := RMoved.of_gb h0 hgw
    have x0 := hX2.cell 0
    have x1 := hX2.cell 1
    have x2 := hX2.cell 2
    have x3 := hX2.cell 3
    obtain ⟨th, hth⟩ : ∃ th, r.there n = th := ⟨_, rfl⟩
    rw [hth]
    have HTH := Lib.hid hth
    clear hX hr1 hgc C0 C1 hth
    clear HTH
    have hmv := moves_any q r G wc ⟨y, hr2⟩ hG.out.lo hG.out.hi
    have hG2 := Lib.hid hG.out.moves
    have hms := RD.moves_s r
    have HMO : Hid (r.do ⟨2, n, c, ps⟩ = if r.moves.1 then (0, settleUp r.moves.2 r.moves.2.s.length) else (10, r.moves.2)) := Lib.hid (by simp [RD.do])
    generalize r.moves = mv at *
    obtain ⟨ok, r2⟩ := mv
    simp only at hms hmv
    have HMS := Lib.hid hms
    clear hms
    go_wp2_with fail
    refine hmv.mono ?_
    rintro e w3 ⟨rfl, hm3⟩
    have hm4 : RMoved q r2 G w w3 := RMoved.chain (G' := G) (Fr.of_gb hgw) (fun j hj => .inl hj) hm3
    cases ok
    · have HD : Hid (r.do ⟨2, n, c, ps⟩ = (10, r2)) := Lib.hid (by rw [HMO.out]; rfl)
      go_wp2_with fail
      go_ret
      exact DoPost.mk HD rfl hm4
    · have HD : Hid (r.do ⟨2, n, c, ps⟩ = (0, settleUp r2 r2.s.length)) := Lib.hid (by rw [HMO.out]; rfl)
      clear x0 x1 x2 x3 hr2b hX2
      have hlen2 : r2.s.length ≤ 8192 := hG2.out.few
      go_upto_block 1 with fail
      go_wp2_with fail
      go_loopw [6] (fun x wr => ∃ k : Nat, x = .int .i64 k ∧ k ≤ r2.s.length ∧ RMoved q (settleUp r2 k) G w wr) (fun x _ => r2.s.length - (intOf x).toNat)
      case atStart => exact ⟨0, rfl, by omega, hm4⟩
      case round =>
        obtain ⟨k, rfl, hk, G', hra, hf, hsub⟩ := hrel
        have hgk := RGood.settleUp hG2.out k
        have hlk := settleUp_len r2 k
        have hra0 := hra
        obtain ⟨yk, hrk⟩ := hra
        obtain ⟨ka, kc, hkv, -, -, -, -, -⟩ := Row.shape hrk.row
        obtain ⟨c0, -, -⟩ := hrk.cells
        rw [hkv, hlk] at c0
        have HGK := Lib.hid hgk
        have HLK := Lib.hid hlk
        clear hgk hlk hkv
        by_cases hlt : k < r2.s.length
        · have hnow := now_any q (settleUp r2 k) G' k wr hra0 HGK.out (by rw [HLK.out]; exact hlt)
          have hset := fun u (hu : GB wr u) => settle_any q (settleUp r2 k) G' k ((settleUp r2 k).now k) u (hra0.gb hu) (by rw [HLK.out]; exact hlt)
          have hS : settleUp r2 (k + 1) = (settleUp r2 k).settle k ((settleUp r2 k).now k) := rfl
          generalize (settleUp r2 k).now k = b at *
          have HS := Lib.hid hS
          clear hS
          go_wp2_with fail
          refine hnow.mono ?_
          rintro e w5 ⟨rfl, hb5⟩
          go_wp2_with fail
          refine (hset w5 hb5).mono ?_
          rintro e w6 ⟨rfl, hm6⟩
          have hm7 : RMoved q (settleUp r2 (k + 1)) G w w6 := by
            rw [HS.out]
            exact RMoved.chain (G' := G') (hf.gb hb5) hsub hm6
          go_wp2_with fail
          go_roundw
          case rel => exact ⟨k + 1, by go_num, by omega, hm7⟩
          case measure => simp [intOf]; omega
        · obtain rfl : k = r2.s.length := by omega
          go_wp2_with fail
          go_ret
          exact DoPost.mk HD rfl ⟨G', hra0, hf, hsub⟩
set_option maxHeartbeats 4000000 in
set_option maxRecDepth 100000 in
theorem do1_any (q : Nat) (r : RD) (G : Nat → Prop) (n : Int) (c : UInt8) (pa : Option Addr) (np pc : Nat) (ps : List Int) (w : World) (h : RefAt w q r G) (hg : RGood r) :
    Calls Try.prog 87 #[.pointer (some ⟨q, 0, none⟩), .agg #[.int .i64 1, .int .i64 n, .int .u8 (n8 c), .slice pa np pc]] w (DoPost q r ⟨1, n, c, ps⟩ G w) := by
  have h0 := h
  obtain ⟨y, hr⟩ := h
  have gA : GB w (w.alloc (.cells #[.int .i64 1, .int .i64 n, .int .u8 (n8 c), .slice pa np pc] 122)) := (Below.refl _ _).alloc (Nat.le_refl _) _
  have hX := Blk.new w [.int .i64 1, .int .i64 n, .int .u8 (n8 c), .slice pa np pc] 122
  change Blk (w.alloc (.cells #[.int .i64 1, .int .i64 n, .int .u8 (n8 c), .slice pa np pc] 122)) _ _ _ at hX
  have hr1 := hr.gb gA
  have hfew := hg.few
  have hG := Lib.hid hg
  clear hg
  obtain ⟨va, vc, hva, -, -, -, -, -⟩ := Row.shape hr.row
  go_enter Try.func87, Try.ntmps87
  go_upto_region 1 with fail
  generalize w.alloc (.cells #[.int .i64 1, .int .i64 n, .int .u8 (n8 c), .slice pa np pc] 122) = w1 at *
  have hXd := hX.gb (GB.drew w1)
  have hrd := hr1.blk.gb (GB.drew w1)
  rw [hva] at hrd
  have C0 : ∀ u, GB w1.drew u → u.cell? ⟨q, 0, none⟩ = some (.slice va r.s.length vc) := fun u hu => (hrd.gb hu).cell 0
  have C1 : ∀ u, GB w1.drew u → u.cell? ⟨w.heap.size, 1, none⟩ = some (.int .i64 n) := fun u hu => (hXd.gb hu).cell 1
  have HVA := Lib.hid hva
  clear hva hrd
  go_cut [5] (fun s wx => s = .bool (r.there n) ∧ GB w1 wx)
  case first =>
    by_cases h1 : 0 ≤ n
    · have q1 : decide (0 ≤ n) = true := by simpa using h1
      obtain ⟨q2, hq2⟩ : ∃ q2, decide (n < (r.s.length : Int)) = q2 := ⟨_, rfl⟩
      have HT : Hid (r.there n = q2) := Lib.hid (by unfold RD.there; rw [q1, hq2, Bool.true_and])
      refine region_gb [(0,0),(1,0),(2,0),(3,0),(4,0),(5,0),(6,0),(7,0),(8,0),(9,0),(10,0),(11,0),(12,0),(13,0)] [] (by kernel_rfl) ?_
      repeat (refine S0w (v := ?_) (by rfl) (by rfl) (fun u hu N hN => ?_) ?_; rotate_left; (go_simp; exact hN); simp only [Act.put, List.setIfInBounds_toArray, List.set_cons_zero, List.set_cons_succ])
      refine S.done ?_
      go_wp2_with fail
      go_meet
      case rel => exact ⟨by rw [HT.out], GB.drew w1⟩
    · have q1 : decide (0 ≤ n) = false := by simpa using h1
      have HT : Hid (r.there n = false) := Lib.hid (by unfold RD.there; rw [q1, Bool.false_and])
      refine region_gb [(0,0),(1,0),(2,0),(3,0),(4,0),(5,0),(6,0),(7,0),(8,0),(9,0),(10,0),(11,0),(12,0),(13,0)] [] (by kernel_rfl) ?_
      repeat (first
        | (refine S0w (v := ?_) (by rfl) (by rfl) (fun u hu N hN => ?_) ?_; rotate_left; (go_simp; exact hN); simp only [Act.put, List.setIfInBounds_toArray, List.set_cons_zero, List.set_cons_succ])
        | (refine S0n (by rfl) (by rfl) ?_; simp only [Act.put, List.setIfInBounds_toArray, List.set_cons_zero, List.set_cons_succ]))
      refine S.done ?_
      go_wp2_with fail
      go_meet
      case rel => exact ⟨by rw [HT.out], GB.drew w1⟩
  case rest =>
    obtain ⟨rfl, hgc⟩ := hcut
    have hX2 := hX.gb hgc
    have hr2 := hr1.gb hgc
    have hgw : GB w wc := GB.trans _ _ _ gA hgc
    have hr2b := hr2.blk
    have hm0 : RMoved q r G w wc := RMoved.of_gb h0 hgw
    have x0 := hX2.cell 0
    have x1 := hX2.cell 1
    have x2 := hX2.cell 2
    have x3 := hX2.cell 3
    obtain ⟨th, hth⟩ : ∃ th, r.there n = th := ⟨_, rfl⟩
    rw [hth]
    have HTH := Lib.hid hth
    clear hX hr1 hgc C0 C1 hth
    have hFG := hr2.bnd
    have hF : ∀ j, G j → j < w.heap.size := hr.bnd
    cases th
    · have HD : Hid (r.do ⟨1, n, c, ps⟩ = (2, r)) := Lib.hid (by rw [RD.do1, HTH.out]; rfl)
      go_wp2_with fail
      go_ret
      exact DoPost.mk HD rfl hm0
    · have hn : 0 ≤ n ∧ n < (r.s.length : Int) := by have := HTH.out; unfold RD.there at this; simpa using this
      obtain ⟨k, rfl⟩ : ∃ k : Nat, n = (k : Int) := ⟨n.toNat, by omega⟩
      have hmv := moves_any q r G wc ⟨y, hr2⟩ hG.out.lo hG.out.hi
      have hG2 := Lib.hid hG.out.moves
      have hms := RD.moves_s r
      have HMO : Hid (r.do ⟨1, k, c, ps⟩ = if r.moves.1 then (0, r.moves.2.wr k c) else (10, r.moves.2)) := Lib.hid (by rw [RD.do1, HTH.out]; rfl)
      generalize r.moves = mv at *
      obtain ⟨ok, r2⟩ := mv
      simp only at hms hmv
      have hk : k < r2.s.length := by rw [hms]; omega
      have HMS := Lib.hid hms
      clear hms
      go_wp2_with fail
      refine hmv.mono ?_
      rintro e w3 ⟨rfl, hm3⟩
      have hm4 : RMoved q r2 G w w3 := RMoved.chain (G' := G) (Fr.of_gb hgw) (fun j hj => .inl hj) hm3
      cases ok
      · have HD : Hid (r.do ⟨1, k, c, ps⟩ = (10, r2)) := Lib.hid (by rw [HMO.out]; rfl)
        go_wp2_with fail
        go_ret
        exact DoPost.mk HD rfl hm4
      · have HD : Hid (r.do ⟨1, k, c, ps⟩ = (0, r2.wr k c)) := Lib.hid (by rw [HMO.out]; rfl)
        obtain ⟨G2, ⟨y3, h3⟩, hf3, hsub3⟩ := hm3
        obtain ⟨gs, vc3, a, ac, hvs, hcell, hrdp, hgq⟩ := h3.at k hk
        have hX3 := hf3.blk hX2 (fun h' => by have := hF _ h'; omega)
        have HSUB : Hid (∀ j, G2 j → G j ∨ w.heap.size ≤ j) := Lib.hid (fun j hj => by
          have := hgw.size
          rcases hsub3 j hj with h' | h'
          · exact .inl h'
          · exact .inr (by omega))
        have hple := (hG2.out.ne _ (List.getElem_mem hk)).2
        have HWR : Hid (r2.wr k c = { r2 with s := r2.s.set k (r2.s[k] ++ [c]) }) := Lib.hid (by unfold RD.wr; simp [List.getD, hk])
        generalize r2.s[k] = p at *
        have c0 := h3.cells.1
        rw [hvs] at c0
        have HVS := Lib.hid hvs
        clear hvs x0 x1 x2 x3 hr2b hm0 hm4 HMO hsub3
        have HRP : Hid (∀ u, GB w3 u → Rd u a (p.map b8)) := Lib.hid (fun u hu => hu.rd hrdp)
        have GB3 : Hid (∀ u, GB w3 u → w3.heap.size ≤ u.heap.size) := Lib.hid (fun u hu => Below.size hu)
        go_upto_region 11 with fail
        have tb : ∀ u, Fr (fun j => w3.heap.size ≤ j) w3.drew u → GB w3 u := fun u hu => GB.trans _ _ _ (GB.drew w3) (hu.below (B := w3.heap.size) (fun j _ hj => hj) (Nat.le_refl _))
        have C0 : ∀ u, Fr (fun j => w3.heap.size ≤ j) w3.drew u → u.cell? ⟨q, 0, none⟩ = some (.slice (some ⟨gs, 0, none⟩) r2.s.length vc3) := fun u hu => (tb u hu).cell c0
        have CS : ∀ u, Fr (fun j => w3.heap.size ≤ j) w3.drew u → u.cell? ⟨gs, k, none⟩ = some (.slice a p.length ac) := fun u hu => (tb u hu).cell hcell
        have C1 : ∀ u, Fr (fun j => w3.heap.size ≤ j) w3.drew u → u.cell? ⟨w.heap.size, 1, none⟩ = some (.int .i64 (k : Int)) := fun u hu => (tb u hu).cell (hX3.cell 1)
        have C2 : ∀ u, Fr (fun j => w3.heap.size ≤ j) w3.drew u → u.cell? ⟨w.heap.size, 2, none⟩ = some (.int .u8 (n8 c)) := fun u hu => (tb u hu).cell (hX3.cell 2)
        refine region_tree (F := fun j => w3.heap.size ≤ j) (.calm 0 (.calm 1 (.calm 2 (.calm 3 (.calm 4 (.calm 5 (.calm 6 (.calm 7 (.calm 8 (.calm 9 (.calm 10 (.calm 11 (.calm 12 (.calm 13 (.calm 14 (.calm 16 (.calm 17 (.fork 15 18 (.act 18 (.act 19 (.calm 20 (.calm 21 (.last 22 .done))))) (.act 15 (.act 19 (.calm 20 (.calm 21 (.last 22 .done))))))))))))))))))))))) [22] (by kernel_rfl) ?_
        iterate 17 (refine T0w (v := ?_) (by rfl) (by rfl) (fun u hu N hN => ?_) ?_; rotate_left; (go_simp; exact hN); simp only [Act.put, List.setIfInBounds_toArray, List.set_cons_zero, List.set_cons_succ])
        have hb_wd : GB w3 w3.drew := GB.drew w3
        generalize hwd : w3.drew = wd at *
        clear C0 CS C1 C2 tb hwd
        refine T.fork (by rfl) (by rfl) (by rfl) (by rfl) (fun K hK => ?_) (fun K hK => ?_)
        refine wp_append8 (.const (.slice none 0 0)) (.tmp 51) rfl (by rfl) (Own8.nil w3.heap.size wd) (by rfl) (HRP.out wd hb_wd) (by simp; omega) (GB3.out wd hb_wd) (fun v52 w4 hown52 hG52 => hK _ _ (Fr.of_grown hG52 (by simp [Value.ownBlock])) ?_)
        clear hK K
        have hb_w4 : GB w3 w4 := Below.grown hb_wd hG52 (GB3.out wd hb_wd) (by simp [Value.ownBlock])
        rw [List.nil_append] at hown52
        simp only [Act.put, List.setIfInBounds_toArray, List.set_cons_zero, List.set_cons_succ]
        refine T1 (by rfl) (by rfl) (fun K hK => ?_)
        go_wp2_with fail
        refine hK _ _ (Fr.of_gb ((Below.refl _ _).alloc (Nat.le_refl _) _)) ?_
        clear hK K
        have hBx := Blk.new w4 [b8 c] 5
        have hb_w5 : GB w3 (w4.alloc (.cells #[.int .u8 (n8 c)] 5)) := GB.trans _ _ _ hb_w4 ((Below.refl _ _).alloc (Nat.le_refl _) _)
        have hgg : GB w4 (w4.alloc (.cells #[.int .u8 (n8 c)] 5)) := (Below.refl _ _).alloc (Nat.le_refl _) _
        change Blk (w4.alloc (.cells #[.int .u8 (n8 c)] 5)) _ _ _ at hBx
        generalize hw_w5 : w4.alloc (.cells #[.int .u8 (n8 c)] 5) = w5 at *
        clear hw_w5
        replace hown52 := hown52.gb hgg
        have hrx : Rd w5 (some ⟨w4.heap.size, 0, none⟩) ([c].map b8) := by simpa using hBx.rd 0
        refine T1 (by rfl) (by rfl) (fun K hK => ?_)
        refine wp_append8 (.tmp 52) (.tmp 55) rfl (by rfl) hown52 (by rfl) hrx (by simp; omega) (GB3.out w5 hb_w5) (fun v56 w6 hown56 hG56 => hK _ _ (Fr.of_grown hG56 (fun j hj => (hown52.lt j hj).1)) ?_)
        clear hK K
        have hb_w6 : GB w3 w6 := Below.grown hb_w5 hG56 (GB3.out w5 hb_w5) (fun j hj => (hown52.lt j hj).1)
        obtain ⟨va6, vc6, rfl, hr56, -, -, -, hlt56⟩ := hown56.shape
        have h6 := h3.gb hb_w6
        have hc6 := GB.cell hb_w6 hcell
        have nf6 : ∀ j, w6.frozen? ⟨gs, j, none⟩ = false := fun j => by
          have hrow := h6.row
          rw [HVS.out] at hrow
          exact World.ownsRow.frozenAt hrow j
        simp only [Act.put, List.setIfInBounds_toArray, List.set_cons_zero, List.set_cons_succ]
        iterate 2 (refine T0w (v := ?_) (by rfl) (by rfl) (fun u hu N hN => ?_) ?_; rotate_left; (go_simp; exact hN); simp only [Act.put, List.setIfInBounds_toArray, List.set_cons_zero, List.set_cons_succ])
        refine T2 (by rfl) (by rfl) (fun K hK => ?_)
        go_wp2_with fail
        refine T.done ?_
        have hs6 := Below.size hb_w6
        have hput := h6.put HVS.out k (p ++ [c]) va6 vc6 (G' := fun j => G2 j ∨ (Value.slice va6 (p ++ [c]).length vc6).ownBlock = some j) (fun j hj => .inl hj) (fun j hj => by
          rcases hj with h' | h'
          · exact h6.bnd j h'
          · exact (hlt56 j h').2) hr56 (fun ad ha => by
            have h7 := (hlt56 ad.block (by rw [ha]; rfl)).1
            have h8 := h3.bnd q h3.cov.1
            have h9 := h3.bnd gs (h3.cov.2 gs (by rw [HVS.out]; rfl))
            exact ⟨by omega, by omega, .inr (by rw [ha]; rfl)⟩)
        have hfin : RMoved q (r2.wr k c) G w (w6.setCell ⟨gs, k, none⟩ (.slice va6 (p ++ [c]).length vc6)) := by
          rw [HWR.out]
          refine RMoved.chain (G' := G2) (Fr.chain (Fr.of_gb hgw) (fun j hj => .inl hj) hf3) HSUB.out ⟨_, ⟨_, hput⟩, (Fr.of_gb hb_w6).setCell _ _ _ (.inl (h3.cov.2 gs (by rw [HVS.out]; rfl))), fun j hj => ?_⟩
          rcases hj with h' | h'
          · exact .inl h'
          · exact .inr (hlt56 j h').1
        go_wp2_with fail
        go_ret
        rw [List.length_append] at hfin
        exact DoPost.mk HD rfl hfin
        go_wp2_with fail
        refine hK _ _ (Fr.of_gb ((Below.refl _ _).alloc (Nat.le_refl _) _)) ?_
        clear hK K
        have hBx := Blk.new wd [b8 c] 5
        have hb_w4 : GB w3 (wd.alloc (.cells #[.int .u8 (n8 c)] 5)) := GB.trans _ _ _ hb_wd ((Below.refl _ _).alloc (Nat.le_refl _) _)
        have hgg : GB wd (wd.alloc (.cells #[.int .u8 (n8 c)] 5)) := (Below.refl _ _).alloc (Nat.le_refl _) _
        change Blk (wd.alloc (.cells #[.int .u8 (n8 c)] 5)) _ _ _ at hBx
        generalize hw_w4 : wd.alloc (.cells #[.int .u8 (n8 c)] 5) = w4 at *
        clear hw_w4
        refine T1 (by rfl) (by rfl) (fun K hK => ?_)
        refine wp_append8 (.const (.slice none 0 0)) (.tmp 51) rfl (by rfl) (Own8.nil w3.heap.size w4) (by rfl) (HRP.out w4 hb_w4) (by simp; omega) (GB3.out w4 hb_w4) (fun v52 w5 hown52 hG52 => hK _ _ (Fr.of_grown hG52 (by simp [Value.ownBlock])) ?_)
        clear hK K
        have hb_w5 : GB w3 w5 := Below.grown hb_w4 hG52 (GB3.out w4 hb_w4) (by simp [Value.ownBlock])
        rw [List.nil_append] at hown52
        simp only [Act.put, List.setIfInBounds_toArray, List.set_cons_zero, List.set_cons_succ]
        replace hBx := hBx.grown hG52 (by simp [Value.ownBlock])
        have hrx : Rd w5 (some ⟨wd.heap.size, 0, none⟩) ([c].map b8) := by simpa using hBx.rd 0
        refine T1 (by rfl) (by rfl) (fun K hK => ?_)
        refine wp_append8 (.tmp 52) (.tmp 55) rfl (by rfl) hown52 (by rfl) hrx (by simp; omega) (GB3.out w5 hb_w5) (fun v56 w6 hown56 hG56 => hK _ _ (Fr.of_grown hG56 (fun j hj => (hown52.lt j hj).1)) ?_)
        clear hK K
        have hb_w6 : GB w3 w6 := Below.grown hb_w5 hG56 (GB3.out w5 hb_w5) (fun j hj => (hown52.lt j hj).1)
        obtain ⟨va6, vc6, rfl, hr56, -, -, -, hlt56⟩ := hown56.shape
        have h6 := h3.gb hb_w6
        have hc6 := GB.cell hb_w6 hcell
        have nf6 : ∀ j, w6.frozen? ⟨gs, j, none⟩ = false := fun j => by
          have hrow := h6.row
          rw [HVS.out] at hrow
          exact World.ownsRow.frozenAt hrow j
        simp only [Act.put, List.setIfInBounds_toArray, List.set_cons_zero, List.set_cons_succ]
        iterate 2 (refine T0w (v := ?_) (by rfl) (by rfl) (fun u hu N hN => ?_) ?_; rotate_left; (go_simp; exact hN); simp only [Act.put, List.setIfInBounds_toArray, List.set_cons_zero, List.set_cons_succ])
        refine T2 (by rfl) (by rfl) (fun K hK => ?_)
        go_wp2_with fail
        refine T.done ?_
        have hs6 := Below.size hb_w6
        have hput := h6.put HVS.out k (p ++ [c]) va6 vc6 (G' := fun j => G2 j ∨ (Value.slice va6 (p ++ [c]).length vc6).ownBlock = some j) (fun j hj => .inl hj) (fun j hj => by
          rcases hj with h' | h'
          · exact h6.bnd j h'
          · exact (hlt56 j h').2) hr56 (fun ad ha => by
            have h7 := (hlt56 ad.block (by rw [ha]; rfl)).1
            have h8 := h3.bnd q h3.cov.1
            have h9 := h3.bnd gs (h3.cov.2 gs (by rw [HVS.out]; rfl))
            exact ⟨by omega, by omega, .inr (by rw [ha]; rfl)⟩)
        have hfin : RMoved q (r2.wr k c) G w (w6.setCell ⟨gs, k, none⟩ (.slice va6 (p ++ [c]).length vc6)) := by
          rw [HWR.out]
          refine RMoved.chain (G' := G2) (Fr.chain (Fr.of_gb hgw) (fun j hj => .inl hj) hf3) HSUB.out ⟨_, ⟨_, hput⟩, (Fr.of_gb hb_w6).setCell _ _ _ (.inl (h3.cov.2 gs (by rw [HVS.out]; rfl))), fun j hj => ?_⟩
          rcases hj with h' | h'
          · exact .inl h'
          · exact .inr (hlt56 j h').1
        go_wp2_with fail
        go_ret
        rw [List.length_append] at hfin
        exact DoPost.mk HD rfl hfin
end Go.Proofs.Ytiihllfjlgbfcaa
