/- The walk of the law's shows: a disk that agrees with the reference's shows it. -/
import Derived.Test.YtiihllfjlgbfcaaDPlain
namespace Go.Proofs.Ytiihllfjlgbfcaa
open Go.RowKit
theorem Inv.read {k : Nat} {d : DD} {r : RD} (h : Inv k d r) (i : Nat) (hi : i < r.s.length) : d.read i = (full (r.now i), 0) := by
  have hl := h.ag.len
  unfold DD.read DD.has
  rw [if_neg (by omega : ¬ ((i : Int) < 0 ∨ (d.img.length : Int) ≤ i)), if_pos rfl, Int.toNat_natCast, h.ag.now h.rg i hi]
theorem Inv.read_end {k : Nat} {d : DD} {r : RD} (h : Inv k d r) : d.read (r.s.length : Int) = (zeros 64, 2) := by
  have hl := h.ag.len
  unfold DD.read DD.has
  rw [if_pos (by omega : ((r.s.length : Int) < 0 ∨ (d.img.length : Int) ≤ r.s.length)), if_neg (by decide)]
set_option maxHeartbeats 8000000 in
set_option maxRecDepth 100000 in
theorem shows_any (p q k : Nat) (d : DD) (r : RD) (F G : Nat → Prop) (w : World) (h : DiskAt w p d F) (hr : RefAt w q r G) (hi : Inv k d r) (hk : k ≤ 9999) :
    Calls Try.prog 86 #[.pointer (some ⟨p, 0, none⟩), .pointer (some ⟨q, 0, none⟩)] w fun e w' => e = .returned (.bool true) ∧ GB w w' := by
  have hjr := hi.jr
  have hop1 := fun u (hu : GB w u) => dopen_any p d F u (h.gb hu) hi.dg (by omega)
  have hop2 := fun u (hu : GB w u) => ropen3_any q r G u (hr.gb hu) hi.rg
  rw [← hi.ag.open hi.dg.inn] at hop2
  have hol := openL_length d.jr
  have hsec := fun u (hu : GB w u) => sectors_any p d F u (h.gb hu)
  have hdead := fun u (hu : GB w u) => dead_any p d F u (h.gb hu)
  have hread := fun u (hu : GB w u) (i : Int) => read_any p d F i u (h.gb hu) hi.dg
  have hnow := fun u (hu : GB w u) i (hil : i < r.s.length) => now_any q r G i u (hr.gb hu) hi.rg hil
  have hri := fun i hil => hi.read i hil
  have hre := hi.read_end
  have hfew := hi.rg.few
  have hlen : d.img.length = r.s.length := hi.ag.len
  have hdd : r.dead = d.dead := hi.ag.dead.symm
  rw [hlen] at hsec
  generalize openL d.jr = O at *
  have HO1 := Lib.hid hop1
  have HO2 := Lib.hid hop2
  have HS := Lib.hid hsec
  have HD := Lib.hid hdead
  have HR := Lib.hid hread
  have HN := Lib.hid hnow
  have HRI := Lib.hid hri
  have HRE := Lib.hid hre
  have HH := Lib.hid h
  obtain ⟨y, hry⟩ := hr
  obtain ⟨va, vc, hva, -, -, -, -, -⟩ := Row.shape hry.row
  have hqb := hry.blk
  rw [hva, hdd] at hqb
  clear hop1 hop2 hsec hdead hread hnow hri hre hlen hdd h hva hi
  go_enter Try.func86, Try.ntmps86
  go_wp2_with fail
  refine (HO1.out w (GB.refl w)).mono ?_
  rintro e w1 ⟨o1, rfl, hown1, hb1⟩
  go_wp2_with fail
  refine (HO2.out w1 hb1).mono ?_
  rintro e w2 ⟨o2, rfl, hown2, hb2⟩
  have hg2 := GB.trans _ _ _ hb1 hb2
  have hown1' := Row.gb hown1 hb2
  obtain ⟨a1, c1, rfl, hr1, -, -, -, -⟩ := Row.shape hown1'
  obtain ⟨a2, c2, rfl, hr2, -, -, -, -⟩ := Row.shape hown2
  clear hown1 hown1' hown2 hb1 hb2
  have hqb2 := hqb.gb hg2
  have hnn : (d.dead != d.dead) = false := by simp
  go_upto_region 2 with fail
  have C0 : ∀ u, GB w2.drew u → u.cell? ⟨q, 0, none⟩ = some (.slice va r.s.length vc) := fun u hu => ((hqb2.gb (GB.drew w2)).gb hu).cell 0
  have C2 : ∀ u, GB w2.drew u → u.cell? ⟨q, 2, none⟩ = some (.bool d.dead) := fun u hu => ((hqb2.gb (GB.drew w2)).gb hu).cell 2
  have hgd := GB.trans _ _ _ hg2 (GB.drew w2)
  go_cut [40] (fun s wx => s = .bool false ∧ w2.drew = wx)
  case first =>
    refine region_gb [(0,0),(2,0),(3,0),(4,0),(5,0),(6,0),(1,1),(7,0),(8,0),(9,0),(11,0),(12,0),(13,0),(14,0),(10,1),(15,0),(16,0),(17,0),(18,0),(19,0),(20,0),(21,0),(22,0),(23,0)] [] (by kernel_rfl) ?_
    iterate 6 (refine S0w (v := ?_) (by rfl) (by rfl) (fun u hu N hN => ?_) ?_; rotate_left; (go_simp; exact hN); simp only [Act.put, List.setIfInBounds_toArray, List.set_cons_zero, List.set_cons_succ])
    refine S1 (by rfl) (by rfl) (fun K hK => ?_)
    go_wp2_with fail
    refine (HS.out _ hgd).mono ?_
    rintro e w3 ⟨rfl, rfl⟩
    refine hK _ _ (GB.refl _) ?_
    clear hK K
    iterate 7 (refine S0w (v := ?_) (by rfl) (by rfl) (fun u hu N hN => ?_) ?_; rotate_left; (go_simp; exact hN); simp only [Act.put, List.setIfInBounds_toArray, List.set_cons_zero, List.set_cons_succ])
    refine S1 (by rfl) (by rfl) (fun K hK => ?_)
    go_wp2_with fail
    refine (HD.out _ hgd).mono ?_
    rintro e w3 ⟨rfl, rfl⟩
    refine hK _ _ (GB.refl _) ?_
    clear hK K
    repeat (refine S0w (v := ?_) (by rfl) (by rfl) (fun u hu N hN => ?_) ?_; rotate_left; (go_simp; exact hN); simp only [Act.put, List.setIfInBounds_toArray, List.set_cons_zero, List.set_cons_succ])
    refine S.done ?_
    go_wp2_with fail
    go_meet
    case rel => exact ⟨rfl, rfl⟩
  case rest =>
    obtain ⟨rfl, rfl⟩ := hcut
    have hr1d := hr1.below (GB.drew w2)
    have hr2d := hr2.below (GB.drew w2)
    have hqbd := hqb2.gb (GB.drew w2)
    generalize w2.drew = w3 at *
    clear C0 C2 hr1 hr2 hqb2 hg2 hnn
    go_upto_block 0 with fail
    go_cut [7] (fun _ wx => GB w3 wx)
    case first =>
      go_wp2_with fail
      go_loopw [7] (fun x wr => ∃ j : Nat, x = .int .i64 j ∧ j ≤ O.length ∧ GB w3 wr) (fun x _ => O.length - (intOf x).toNat)
      case atStart => exact ⟨0, rfl, by omega, GB.refl _⟩
      case round =>
        obtain ⟨j, rfl, hjl, hb⟩ := hrel
        by_cases hlt : j < O.length
        · obtain ⟨ad1, rfl, hc1⟩ := (hr1d.below hb) j (by simpa using hlt)
          obtain ⟨ad2, rfl, hc2⟩ := (hr2d.below hb) j (by simpa using hlt)
          simp only [List.getElem_map, bI] at hc1 hc2
          have hq : (O[j] != O[j]) = false := by simp
          have C1 : ∀ u, GB wr.drew u → u.cell? (ad1.add j) = some (.int .i64 O[j]) := fun u hu => hu.cell hc1
          have C2 : ∀ u, GB wr.drew u → u.cell? (ad2.add j) = some (.int .i64 O[j]) := fun u hu => hu.cell hc2
          generalize O[j] = z at *
          go_wp2_with fail
          refine region_gb [(0,0),(1,0),(2,0),(3,0),(4,0),(5,0),(6,0),(7,0),(8,0)] [] (by kernel_rfl) ?_
          repeat (refine S0w (v := ?_) (by rfl) (by rfl) (fun u hu N hN => ?_) ?_; rotate_left; (go_simp; exact hN); simp only [Act.put, List.setIfInBounds_toArray, List.set_cons_zero, List.set_cons_succ])
          refine S.done ?_
          go_wp2_with fail
          go_roundw
          case rel => exact ⟨j + 1, by go_num, by omega, GB.trans _ _ _ hb (GB.drew _)⟩
          case measure => simp [intOf]; omega
        · go_wp2_with fail
          go_meet
          case rel => exact hb
    case rest =>
      have hqb4 := hqbd.gb hcut
      have hg4 := GB.trans _ _ _ hgd hcut
      clear hr1d hr2d hqbd hgd hcut
      go_upto_block 2 with fail
      go_cut [8] (fun _ wx => GB w wx ∧ Blk wx q 137 [.slice va r.s.length vc, .int .i64 r.fuse, .bool d.dead])
      case first =>
        go_wp2_with fail
        go_loopw [8] (fun x wr => ∃ j : Nat, x = .int .i64 j ∧ j ≤ r.s.length ∧ GB w wr ∧ Blk wr q 137 [.slice va r.s.length vc, .int .i64 r.fuse, .bool d.dead]) (fun x _ => r.s.length - (intOf x).toNat)
        case atStart => exact ⟨0, rfl, by omega, hg4, hqb4⟩
        case round =>
          obtain ⟨j, rfl, hjl, hb, hB⟩ := hrel
          have c0 := hB.cell 0
          by_cases hlt : j < r.s.length
          · have hrd := HR.out wr hb j
            have hnw := fun u hu => HN.out u hu j hlt
            rw [HRI.out j hlt] at hrd
            have HNW := Lib.hid hnw
            have hfa := fun u => full_any (r.now j) u
            have HFA := Lib.hid hfa
            have HFL := Lib.hid (full_length (r.now j))
            clear hnw hfa
            generalize full (r.now j) = X1 at *
            generalize r.now j = b at *
            have hz := Lib.hid (zeros_length 64)
            go_wp2_with fail
            refine hrd.mono ?_
            rintro e w5 ⟨rfl, hb5⟩
            simp only
            go_wp2_with (first | with_reducible refine halt_alloc 59 ?_ | with_reducible refine halt_store 59 ?_)
            refine L.alloc rfl zero59 (by rfl) ?_
            intro w6 hA6 hG6
            simp only [Act.put, List.setIfInBounds_toArray, List.set_cons_zero, List.set_cons_succ]
            go_wp2_with (first | with_reducible refine halt_alloc 59 ?_ | with_reducible refine halt_store 59 ?_)
            refine L.store rfl info59 (by rfl) (by rfl) hA6 (by rw [List.length_map]; exact hz.out) HFL.out (by rfl) ?_
            intro w7 hA7 hG7
            simp only [Act.put]
            have hb6 := GB.trans _ _ _ hb (GB.trans _ _ _ hb5 hG6)
            have hb7 : GB w w7 := Below.grown hb6 hG7 hb6.size (fun j hj => by rw [← Option.some.inj hj]; exact (GB.trans _ _ _ hb hb5).size)
            have hB7 : Blk w7 q 137 [.slice va r.s.length vc, .int .i64 r.fuse, .bool d.dead] := (hB.gb (GB.trans _ _ _ hb5 hG6)).grown hG7 (fun e => by
              have h1 := Option.some.inj e
              have h2 := (hB.gb hb5).lt
              omega)
            clear hA6 hG7 hB c0
            have hqx : (!(X1 == X1)) = false := by simp
            have hA7d := Blk.gb hA7 (GB.drew w7)
            go_upto_region 13 with fail
            go_cut [81] (fun s wx => s = .bool false ∧ GB w7 wx)
            case first =>
              refine region_gb [(0,0),(1,0),(2,0),(3,1),(4,1),(5,0),(6,0),(7,0),(8,1),(9,0),(10,0)] [] (by kernel_rfl) ?_
              refine S0 (by rfl) (by rfl) (fun u hu => X.load rfl (by rfl) Try.underlying59 info59 (hA7d.gb hu) HFL.out) ?_
              simp only [Act.put, List.setIfInBounds_toArray, List.set_cons_zero, List.set_cons_succ]
              iterate 2 (refine S0w (v := ?_) (by rfl) (by rfl) (fun u hu N hN => ?_) ?_; rotate_left; (go_simp; exact hN); simp only [Act.put, List.setIfInBounds_toArray, List.set_cons_zero, List.set_cons_succ])
              refine S1 (by rfl) (by rfl) (fun K hK => ?_)
              go_wp2_with fail
              refine (HNW.out _ (GB.trans _ _ _ hb7 (GB.drew w7))).mono ?_
              rintro e w8 ⟨rfl, hb8⟩
              refine hK _ _ hb8 ?_
              clear hK K
              refine S1 (by rfl) (by rfl) (fun K hK => ?_)
              go_wp2_with fail
              refine (HFA.out _).mono ?_
              rintro e w9 ⟨rfl, hb9⟩
              refine hK _ _ hb9 ?_
              clear hK K
              refine S0 (by rfl) (by rfl) (fun u hu => X.neq rfl (by rfl) (by rfl) Try.underlying59 guard59 HFL.out HFL.out) ?_
              simp only [Act.put, List.setIfInBounds_toArray, List.set_cons_zero, List.set_cons_succ]
              rw [hqx]
              iterate 2 (refine S0w (v := ?_) (by rfl) (by rfl) (fun u hu N hN => ?_) ?_; rotate_left; (go_simp; exact hN); simp only [Act.put, List.setIfInBounds_toArray, List.set_cons_zero, List.set_cons_succ])
              refine S1 (by rfl) (by rfl) (fun K hK => ?_)
              go_wp2_with fail
              refine (num_any 0 _).mono ?_
              rintro e w10 ⟨rfl, rfl⟩
              refine hK _ _ (GB.refl _) ?_
              clear hK K
              repeat (refine S0w (v := ?_) (by rfl) (by rfl) (fun u hu N hN => ?_) ?_; rotate_left; (go_simp; exact hN); simp only [Act.put, List.setIfInBounds_toArray, List.set_cons_zero, List.set_cons_succ])
              refine S.done ?_
              go_wp2_with fail
              go_meet
              case rel => exact ⟨rfl, GB.trans _ _ _ (GB.drew w7) (GB.trans _ _ _ hb8 hb9)⟩
            case rest =>
              obtain ⟨rfl, hg8⟩ := hcut
              have hb8 := GB.trans _ _ _ hb7 hg8
              have hB8 := hB7.gb hg8
              clear hB7 hA7 hA7d hqx
              go_wp2_with fail
              go_roundw
              case rel => exact ⟨j + 1, by go_num, by omega, hb8, hB8⟩
              case measure => simp [intOf]; omega
          · go_wp2_with fail
            go_meet
            case rel => exact ⟨hb, hB⟩
      case rest =>
        obtain ⟨hb, hB⟩ := hcut
        have c0 := hB.cell 0
        have hrd := HR.out wc hb (r.s.length : Int)
        rw [HRE.out] at hrd
        have hz := Lib.hid (zeros_length 64)
        go_wp2_with fail
        refine hrd.mono ?_
        rintro e w5 ⟨rfl, hb5⟩
        simp only
        go_wp2_with (first | with_reducible refine halt_alloc 59 ?_ | with_reducible refine halt_store 59 ?_)
        refine L.alloc rfl zero59 (by rfl) ?_
        intro w6 hA6 hG6
        simp only [Act.put, List.setIfInBounds_toArray, List.set_cons_zero, List.set_cons_succ]
        go_wp2_with (first | with_reducible refine halt_alloc 59 ?_ | with_reducible refine halt_store 59 ?_)
        refine L.store rfl info59 (by rfl) (by rfl) hA6 (by rw [List.length_map]; exact hz.out) hz.out (by rfl) ?_
        intro w7 hA7 hG7
        simp only [Act.put]
        have hb6 := GB.trans _ _ _ hb (GB.trans _ _ _ hb5 hG6)
        have hb7 : GB w w7 := Below.grown hb6 hG7 hb6.size (fun j hj => by rw [← Option.some.inj hj]; exact (GB.trans _ _ _ hb hb5).size)
        go_wp2_with fail
        refine (num_any 2 _).mono ?_
        rintro e w10 ⟨rfl, rfl⟩
        go_wp2_with fail
        go_ret
        exact ⟨rfl, hb7⟩
end Go.Proofs.Ytiihllfjlgbfcaa
