/- The walks of the reference's Do, further: a loss of power; all kinds of steps. -/
import Derived.Test.YtiihllfjlgbfcaaRDo2
namespace Go.Proofs.Ytiihllfjlgbfcaa
open Go.RowKit
set_option maxHeartbeats 4000000 in
set_option maxRecDepth 100000 in
theorem do4_any (q : Nat) (r : RD) (G : Nat → Prop) (n : Int) (c : UInt8) (pa : Option Addr) (ps : List Int) (pc : Nat) (w : World) (h : RefAt w q r G) (hg : RGood r) (hrp : Rd w pa (ps.map bI)) (hpG : ∀ ad, pa = some ad → 0 < ps.length → ¬ G ad.block) :
    Calls Try.prog 87 #[.pointer (some ⟨q, 0, none⟩), .agg #[.int .i64 4, .int .i64 n, .int .u8 (n8 c), .slice pa ps.length pc]] w (DoPost q r ⟨4, n, c, ps⟩ G w) := by
  have h0 := h
  obtain ⟨y, hr⟩ := h
  have gA : GB w (w.alloc (.cells #[.int .i64 4, .int .i64 n, .int .u8 (n8 c), .slice pa ps.length pc] 122)) := (Below.refl _ _).alloc (Nat.le_refl _) _
  have hX := Blk.new w [.int .i64 4, .int .i64 n, .int .u8 (n8 c), .slice pa ps.length pc] 122
  change Blk (w.alloc (.cells #[.int .i64 4, .int .i64 n, .int .u8 (n8 c), .slice pa ps.length pc] 122)) _ _ _ at hX
  have hr1 := hr.gb gA
  have hfew := hg.few
  have hG := Lib.hid hg
  clear hg
  obtain ⟨va, vc, hva, -, -, -, -, -⟩ := Row.shape hr.row
  go_enter Try.func87, Try.ntmps87
  go_upto_region 1 with fail
  generalize w.alloc (.cells #[.int .i64 4, .int .i64 n, .int .u8 (n8 c), .slice pa ps.length pc] 122) = w1 at *
  have hXd := hX.gb (GB.drew w1)
  have hrd := hr1.blk.gb (GB.drew w1)
  rw [hva] at hrd
  have C0 : ∀ u, GB w1.drew u → u.cell? ⟨q, 0, none⟩ = some (.slice va r.s.length vc) := fun u hu => (hrd.gb hu).cell 0
  have C1 : ∀ u, GB w1.drew u → u.cell? ⟨w.heap.size, 1, none⟩ = some (.int .i64 n) := fun u hu => (hXd.gb hu).cell 1
  have HVA := Lib.hid hva
  clear hva hrd
  go_cut [5] (fun s wx => s = .bool (r.there n) ∧ GB w1 wx)
  case first =>
    by_cases h1 : 0 ≤ n
    · have q1 : decide (0 ≤ n) = true := by simpa using h1
      obtain ⟨q2, hq2⟩ : ∃ q2, decide (n < (r.s.length : Int)) = q2 := ⟨_, rfl⟩
      have HT : Hid (r.there n = q2) := Lib.hid (by unfold RD.there; rw [q1, hq2, Bool.true_and])
      refine region_gb [(0,0),(1,0),(2,0),(3,0),(4,0),(5,0),(6,0),(7,0),(8,0),(9,0),(10,0),(11,0),(12,0),(13,0)] [] (by kernel_rfl) ?_
      repeat (refine S0w (v := ?_) (by rfl) (by rfl) (fun u hu N hN => ?_) ?_; rotate_left; (go_simp; exact hN); simp only [Act.put, List.setIfInBounds_toArray, List.set_cons_zero, List.set_cons_succ])
      refine S.done ?_
      go_wp2_with fail
      go_meet
      case rel => exact ⟨by rw [HT.out], GB.drew w1⟩
    · have q1 : decide (0 ≤ n) = false := by simpa using h1
      have HT : Hid (r.there n = false) := Lib.hid (by unfold RD.there; rw [q1, Bool.false_and])
      refine region_gb [(0,0),(1,0),(2,0),(3,0),(4,0),(5,0),(6,0),(7,0),(8,0),(9,0),(10,0),(11,0),(12,0),(13,0)] [] (by kernel_rfl) ?_
      repeat (first
        | (refine S0w (v := ?_) (by rfl) (by rfl) (fun u hu N hN => ?_) ?_; rotate_left; (go_simp; exact hN); simp only [Act.put, List.setIfInBounds_toArray, List.set_cons_zero, List.set_cons_succ])
        | (refine S0n (by rfl) (by rfl) ?_; simp only [Act.put, List.setIfInBounds_toArray, List.set_cons_zero, List.set_cons_succ]))
      refine S.done ?_
      go_wp2_with fail
      go_meet
      case rel => exact ⟨by rw [HT.out], GB.drew w1⟩
  case rest =>
    obtain ⟨rfl, hgc⟩ := hcut
    have hX2 := hX.gb hgc
    have hr2 := hr1.gb hgc
    have hgw : GB w wc := GB.trans _ _ _ gA hgc
    have hr2b := hr2.blk
    have hm0 : RMoved q r G w wc := RMoved.of_gb h0 hgw
    have x0 := hX2.cell 0
    have x1 := hX2.cell 1
    have x2 := hX2.cell 2
    have x3 := hX2.cell 3
    obtain ⟨th, hth⟩ : ∃ th, r.there n = th := ⟨_, rfl⟩
    rw [hth]
    have HTH := Lib.hid hth
    clear hX hr1 hgc C0 C1 hth
    clear HTH
    have hF : ∀ j, G j → j < w.heap.size := hr.bnd
    have hop := ropen3_any q r G wc ⟨y, hr2⟩ hG.out
    have HD : Hid (r.do ⟨4, n, c, ps⟩ = (0, { rcrashUp r ps r.openR.length with fuse := -1, dead := false })) := Lib.hid (RD.do4 r n c ps)
    have hol := openUp_length r r.s.length
    change r.openR.length ≤ _ at hol
    have hmem : ∀ x ∈ r.openR, ∃ i : Nat, x = (i : Int) ∧ i < r.s.length := openUp_mem r r.s.length
    have hR : ∀ k (h : k < r.openR.length), rcrashUp r ps (k + 1) = (rcrashUp r ps k).settle (r.openR[k]).toNat ((((rcrashUp r ps k).s.getD (r.openR[k]).toNat [])).getD (rpick ps k ((rcrashUp r ps k).s.getD (r.openR[k]).toNat []).length) 0) := fun k h => by
      rw [rcrashUp, show (r.openR).getD k 0 = r.openR[k] by simp [List.getD, h]]
    generalize r.openR = O at *
    have HME := Lib.hid hmem
    have HR := Lib.hid hR
    clear hmem hR
    go_wp2_with fail
    refine hop.mono ?_
    rintro e w2 ⟨ov, rfl, hown, hb2⟩
    obtain ⟨oa, oc, rfl, -, -, -, -, -⟩ := Row.shape hown
    have hownl := hown.lt
    have hX3 := hX2.gb hb2
    have hr3 : RefAt w2 q r G := RefAt.gb ⟨y, hr2⟩ hb2
    have hgw2 := GB.trans _ _ _ hgw hb2
    have hsz := hgw.size
    have hsz2 := hgw2.size
    have hrp2 := hgw2.rd hrp
    clear hop x0 x1 x2 x3 hr2b hX2 hr2
    go_upto_block 3 with fail
    go_wp2_with fail
    go_loopw [8] (fun x wr => ∃ k : Nat, x = .int .i64 k ∧ k ≤ O.length ∧ RMoved q (rcrashUp r ps k) G w2 wr) (fun x _ => O.length - (intOf x).toNat)
    case atStart => exact ⟨0, rfl, by omega, RMoved.refl hr3⟩
    case round =>
      obtain ⟨k, rfl, hk, G', hra, hf, hsub⟩ := hrel
      by_cases hlt : k < O.length
      · have hgk := RGood.rcrashUp hG.out ps k
        have hlk := rcrashUp_len r ps k
        have hS := HR.out k hlt
        obtain ⟨i, hi, hil⟩ := HME.out _ (List.getElem_mem hlt)
        rw [hi] at hS
        simp only [Int.toNat_natCast] at hS
        have hra0 := hra
        obtain ⟨yk, hrk⟩ := hra
        have hilk : i < (rcrashUp r ps k).s.length := by rw [hlk]; exact hil
        obtain ⟨gs, vc3, a, ac, hvs, hcell, hrdp, hgq⟩ := hrk.at i hilk
        have hpp := hgk.ne _ (List.getElem_mem hilk)
        have hget : (rcrashUp r ps k).s.getD i [] = (rcrashUp r ps k).s[i] := by simp [List.getD, hilk]
        rw [hget] at hS
        have hsett := fun u (b : UInt8) (hu : GB wr u) => settle_any q (rcrashUp r ps k) G' i b u (hra0.gb hu) hilk
        have c0 := hrk.cells.1
        rw [hvs] at c0
        generalize (rcrashUp r ps k).s[i] = p at *
        have hpk := rpick_lt ps k p.length hpp.1
        obtain ⟨oad, rfl, hoc⟩ := (Row.rd (hf.row hown (fun j hj h' => by have := (hownl j hj).1; have := hF j h'; omega))).1 k (by simpa using hlt)
        simp only [List.getElem_map, bI, hi] at hoc
        have hXr := hf.blk hX3 (fun h' => by have := hF _ h'; omega)
        have hrpr : Rd wr pa (ps.map bI) := by
          by_cases h0 : 0 < ps.length
          · exact hf.rd hrp2 (fun ad ha => hpG ad ha h0)
          · intro k hk
            rw [List.length_map] at hk; omega
        have HS := Lib.hid hS
        have HLK := Lib.hid hlk
        have hp1 := hpp.1
        have hp2 := hpp.2
        have hzv : ((p.length : Int) == 0) = false := by rw [beq_eq_false_iff_ne]; omega
        clear hS hlk hvs hi hget hilk hpp
        go_upto_region 28 with fail
        have C0 : ∀ u, GB wr.drew u → u.cell? ⟨q, 0, none⟩ = some (.slice (some ⟨gs, 0, none⟩) (rcrashUp r ps k).s.length vc3) := fun u hu => hu.cell c0
        have C1 : ∀ u, GB wr.drew u → u.cell? (oad.add k) = some (.int .i64 (i : Int)) := fun u hu => hu.cell hoc
        have C2 : ∀ u, GB wr.drew u → u.cell? ⟨gs, i, none⟩ = some (.slice a p.length ac) := fun u hu => hu.cell hcell
        have hil2 : i < (rcrashUp r ps k).s.length := by rw [HLK.out]; exact hil
        go_cut [9] (fun s wx => s = .slice a p.length ac ∧ GB wr wx)
        case first =>
          refine region_gb [(0,0),(1,0),(2,0),(3,0),(4,0),(5,0),(6,0),(7,0),(8,0),(9,0),(10,0),(11,0)] [] (by kernel_rfl) ?_
          repeat (refine S0w (v := ?_) (by rfl) (by rfl) (fun u hu N hN => ?_) ?_; rotate_left; (go_simp; exact hN); simp only [Act.put, List.setIfInBounds_toArray, List.set_cons_zero, List.set_cons_succ])
          refine S.done ?_
          go_wp2_with fail
          go_meet
          case rel => exact ⟨rfl, GB.drew _⟩
        case rest =>
          obtain ⟨rfl, hg4⟩ := hcut
          have x3 := (hXr.gb hg4).cell 3
          have hrp4 := hg4.rd hrpr
          have hrdp4 := hg4.rd hrdp
          have hoc4 := hg4.cell hoc
          clear C0 C1 C2 c0 hoc hcell hrdp hrpr hXr
          go_upto_if 114 with fail
          go_cut [10] (fun x wx => x = .int .i64 (rpick ps k p.length : Nat) ∧ wc = wx)
          case first =>
            by_cases hkp : k < ps.length
            · obtain ⟨pd, rfl, hcp⟩ := hrp4 k (by simpa using hkp)
              simp only [List.getElem_map, bI] at hcp
              have hraw : (rpick ps k p.length : Int) = ((ps[k]).tmod p.length + p.length).tmod p.length := by
                have h1 := Int.lt_tmod_of_pos (ps[k]) (show (0 : Int) < p.length by omega)
                have h2 : ps.getD k 0 = ps[k] := by simp [List.getD, hkp]
                unfold rpick
                rw [if_pos hkp, h2, Int.toNat_of_nonneg]
                exact Int.tmod_nonneg _ (by omega)
              have hmodb : -(p.length : Int) < (ps[k]).tmod p.length ∧ (ps[k]).tmod p.length < p.length := ⟨Int.lt_tmod_of_pos _ (by omega), Int.tmod_lt_of_pos _ (by omega)⟩
              have hpkb : (0 : Int) ≤ (rpick ps k p.length : Int) ∧ (rpick ps k p.length : Int) < p.length := by omega
              rw [hraw] at hpkb
              have HRW : Hid ((rpick ps k p.length : Int) = ((ps[k]).tmod p.length + p.length) % p.length) := Lib.hid (by
                rw [hraw]; exact Int.tmod_eq_emod_of_nonneg (by omega))
              have hwr1 : IntKind.i64.wrap ((ps[k]).tmod p.length) = (ps[k]).tmod p.length := wrapi _ (by omega) (by omega)
              have hwr2 : IntKind.i64.wrap ((ps[k]).tmod p.length + p.length) = (ps[k]).tmod p.length + p.length := wrapi _ (by omega) (by omega)
              have hwr3 : IntKind.i64.wrap (((ps[k]).tmod p.length + p.length).tmod p.length) = ((ps[k]).tmod p.length + p.length).tmod p.length := wrapi _ (by omega) (by omega)
              clear hraw
              generalize ps[k] = pv at *
              go_wp2_with fail
              go_meet
              case rel => exact ⟨by rw [HRW.out], rfl⟩
            · have HRW : Hid (rpick ps k p.length = 0) := Lib.hid (by unfold rpick; rw [if_neg hkp]; rfl)
              go_wp2_with fail
              go_meet
              case rel => exact ⟨by rw [HRW.out]; rfl, rfl⟩
          case rest =>
            obtain ⟨rfl, rfl⟩ := hcut
            generalize rpick ps k p.length = pk at *
            obtain ⟨bd, rfl, hbc⟩ := hrdp4 pk (by simpa using hpk)
            simp only [List.getElem_map, b8] at hbc
            have hpg : p.getD pk 0 = p[pk] := by simp [List.getD, hpk]
            rw [hpg] at HS
            generalize p[pk] = b at *
            clear hpg
            go_upto_region 32 with fail
            have C1 : ∀ u, GB wc.drew u → u.cell? (oad.add k) = some (.int .i64 (i : Int)) := fun u hu => hu.cell hoc4
            have C2 : ∀ u, GB wc.drew u → u.cell? (bd.add pk) = some (.int .u8 (n8 b)) := fun u hu => hu.cell hbc
            refine region_gb [(0,0),(1,0),(2,0),(3,0),(4,0),(5,0),(6,0),(7,0),(8,0),(9,2)] [9] (by kernel_rfl) ?_
            iterate 9 (refine S0w (v := ?_) (by rfl) (by rfl) (fun u hu N hN => ?_) ?_; rotate_left; (go_simp; exact hN); simp only [Act.put, List.setIfInBounds_toArray, List.set_cons_zero, List.set_cons_succ])
            refine S2 (by rfl) (by rfl) (fun K hK => ?_)
            go_wp2_with fail
            have hg5 : GB wr wc.drew := GB.trans _ _ _ hg4 (GB.drew wc)
            refine (hsett wc.drew b hg5).mono ?_
            rintro e w6 ⟨rfl, hm6⟩
            refine hK _ _ ?_
            clear hK K
            refine S.done ?_
            have hm7 : RMoved q (rcrashUp r ps (k + 1)) G w2 w6 := by
              rw [HS.out]
              exact RMoved.chain (G' := G') (hf.gb hg5) hsub hm6
            go_wp2_with fail
            go_roundw
            case rel => exact ⟨k + 1, by go_num, by omega, hm7⟩
            case measure => simp [intOf]; omega
      · obtain rfl : k = O.length := by omega
        obtain ⟨yk, hrk⟩ := hra
        obtain ⟨c0, c1, c2⟩ := hrk.cells
        have nf := fun j => hrk.blk.frozen j
        have hff := ((Fr.refl (· = q) wr).setCell q 1 (.int .i64 (-1)) (.inl rfl)).setCell q 2 (.bool false) (.inl rfl)
        have hkk := hrk.keep hff ((hrk.blk.set 1 (.int .i64 (-1))).set 2 (.bool false))
        have hm7 : RMoved q { rcrashUp r ps O.length with fuse := -1, dead := false } G w _ :=
          RMoved.chain (G' := G) (Fr.of_gb hgw2) (fun j hj => .inl hj) (RMoved.chain (G' := G') hf hsub (hkk.moved (hrk.frq hff)))
        go_wp2_with fail
        go_ret
        exact DoPost.mk HD rfl hm7
def stepV (x : Step) (pa : Option Addr) (pc : Nat) : Value := .agg #[.int .i64 x.kind, .int .i64 x.n, .int .u8 (n8 x.fill), .slice pa x.picks.length pc]
theorem do_any (q : Nat) (r : RD) (G : Nat → Prop) (x : Step) (pa : Option Addr) (pc : Nat) (w : World) (h : RefAt w q r G) (hg : RGood r) (hrp : Rd w pa (x.picks.map bI)) (hpG : ∀ ad, pa = some ad → 0 < x.picks.length → ¬ G ad.block) :
    Calls Try.prog 87 #[.pointer (some ⟨q, 0, none⟩), stepV x pa pc] w (DoPost q r x G w) := by
  obtain ⟨kind, n, c, ps⟩ := x
  unfold stepV
  by_cases k1 : kind = 1
  · subst k1; exact do1_any q r G n c pa ps.length pc ps w h hg
  by_cases k2 : kind = 2
  · subst k2; exact do2_any q r G n c pa ps.length pc ps w h hg
  by_cases k3 : kind = 3
  · subst k3; exact do3_any q r G n c pa ps.length pc ps w h hg
  by_cases k4 : kind = 4
  · subst k4; exact do4_any q r G n c pa ps pc w h hg hrp hpG
  by_cases k5 : kind = 5
  · subst k5; exact do5_any q r G n c pa ps.length pc ps w h hg
  by_cases k6 : kind = 6
  · subst k6; exact do6_any q r G n c pa ps.length pc ps w h hg
  exact doX_any q r G kind n c pa ps.length pc ps w h hg (by simpa using k1) (by simpa using k2) (by simpa using k3) (by simpa using k4) (by simpa using k5) (by simpa using k6)
end Go.Proofs.Ytiihllfjlgbfcaa
