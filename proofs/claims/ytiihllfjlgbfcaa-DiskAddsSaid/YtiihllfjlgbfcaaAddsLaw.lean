/- The walk of the law DiskAdds. -/
import Derived.Test.YtiihllfjlgbfcaaSteps
namespace Go.Proofs.Ytiihllfjlgbfcaa
open Go.RowKit
theorem crashK_keep (d : DD) (hg : DGood d) (picks : List Int) (i : Nat) (hp : pastL d.jr i = []) : ∀ m, m ≤ (openL d.jr).length → (crashK d picks m).getD i [] = d.img.getD i []
  | 0, _ => rfl
  | m + 1, hm => by
    obtain ⟨j, hj, hjl, hjp⟩ := open_at d hg m (by omega)
    have e0 : (openL d.jr).getD m 0 = (j : Int) := by rw [← hj]; simp [List.getD, show m < (openL d.jr).length by omega]
    have hne : j ≠ i := fun e => by subst e; rw [hp] at hjp; simp at hjp
    rw [crashK, e0, Int.toNat_natCast, getD_set, if_neg (fun h => hne h.1), crashK_keep d hg picks i hp m (by omega)]
theorem calm_step {d : DD} (h1 : d.left = -1) (h2 : d.dead = false) : d.step = (0, d) := by
  obtain ⟨img, jr, l, b⟩ := d
  simp only at h1 h2
  subst h1; subst h2
  rfl
theorem adds_plain (d d1 : DD) (hd : DGood d) (tz : Int) (hg : d.grow tz = (0, d1)) (hne : tz ≠ (d.img.length : Int)) (s : List UInt8) (hs : s.length = 64) :
    DGood d1 ∧ d1.jr = d.jr ∧ tz ≤ 8192 ∧ DGood (d1.crash []) ∧ (d1.crash []).jr = [] ∧ (d1.crash []).read (tz - 1) = (zeros 64, 0) ∧
    ∃ d3 d4, (d1.crash []).write (tz - 1) s = (0, d3) ∧ DGood d3 ∧ d3.flush = (0, d4) ∧ DGood d4 ∧ d4.jr = [] ∧ DGood (d4.crash []) ∧ (d4.crash []).read (tz - 1) = (s, 0) ∧ ((d4.crash []).img.length : Int) = tz := by
  unfold DD.grow at hg
  split at hg
  · simp at hg
  · rename_i hb
    split at hg
    · simp at hg
    · simp only [Prod.mk.injEq, true_and] at hg
      have hdg := DGood.grow hd (tz.toNat - d.img.length) (by omega)
      rw [hg] at hdg
      have hi1 : d1.img = d.img ++ noughts (tz.toNat - d.img.length) := by rw [← hg]
      have hj1 : d1.jr = d.jr := by rw [← hg]
      obtain ⟨i, hi⟩ : ∃ i : Nat, tz - 1 = (i : Int) := ⟨(tz - 1).toNat, by omega⟩
      have hl1 : d1.img.length = i + 1 := by rw [hi1, List.length_append, noughts_length]; omega
      have hp : pastL d1.jr i = [] := by
        unfold pastL
        rw [hj1, List.map_eq_nil_iff, List.filter_eq_nil_iff]
        intro e he
        have := hd.inn e he
        simp; omega
      have hk := crashK_keep d1 hdg [] i hp _ (Nat.le_refl _)
      have hz : d1.img.getD i [] = zeros 64 := by
        rw [hi1, List.getD, List.getElem?_append_right (by omega), List.getElem?_eq_getElem (by rw [noughts_length]; omega)]
        simp [noughts]
      rw [hz] at hk
      have hc := DGood.crash hdg []
      have hl2 : (d1.crash []).img.length = i + 1 := by show (crashK d1 [] _).length = _; rw [crashK_length, hl1]
      have hhas : ∀ x : DD, x.img.length = i + 1 → x.has (i : Int) = 0 := fun x hx => by unfold DD.has; rw [if_neg (by omega)]
      have hst := calm_step (d := d1.crash []) rfl rfl
      have hput := DGood.put hc i (by omega) s hs
      have hst3 := calm_step (d := (d1.crash []).put i s) rfl rfl
      rw [hi]
      refine ⟨hdg, hj1, by omega, hc, rfl, ?_, (d1.crash []).put i s, { (d1.crash []).put i s with jr := [] }, ?_, hput, ?_, hput.flushed, rfl, DGood.crash hput.flushed [], ?_, ?_⟩
      · unfold DD.read
        rw [hhas _ hl2, if_pos rfl, Int.toNat_natCast]
        exact congrArg (·, (0 : Int)) hk
      · unfold DD.write
        rw [hhas _ hl2, if_pos rfl, hst, if_pos rfl, Int.toNat_natCast]
      · unfold DD.flush
        rw [hst3, if_pos rfl]
      · unfold DD.read
        have hl5 : (({ (d1.crash []).put i s with jr := [] } : DD).crash []).img = (d1.crash []).img.set i s := rfl
        rw [hhas _ (by rw [hl5, List.length_set, hl2]), if_pos rfl, Int.toNat_natCast, hl5, getD_set, if_pos ⟨rfl, by omega⟩]
      · have hl5 : (({ (d1.crash []).put i s with jr := [] } : DD).crash []).img = (d1.crash []).img.set i s := rfl
        rw [hl5, List.length_set, hl2]; omega
/-- The law's own disk, and a sector of the law's beside it. -/
def MineX (w u : World) (p : Nat) (d : DD) (b : Nat) (l : List UInt8) : Prop := ∃ F, DiskAt u p d F ∧ (∀ k, F k → w.heap.size ≤ k) ∧ GB w u ∧ ¬ F b ∧ Blk u b 59 (l.map b8)
theorem MineX.step {w u v : World} {p b : Nat} {d' : DD} {l : List UInt8} {F : Nat → Prop} (hF : ∀ k, F k → w.heap.size ≤ k) (hg : GB w u) (hb : ¬ F b) (hB : Blk u b 59 (l.map b8)) (hm : Moved p d' F u v) : MineX w v p d' b l := by
  obtain ⟨F', h1, h2, h3⟩ := hm
  have hs := Below.size hg
  have hbl := hB.lt
  refine ⟨F', h1, fun k hk => ?_, Fr.gbw hg hF h2, fun hf => ?_, h2.blk hB hb⟩
  · rcases h3 k hk with h | h
    · exact hF k h
    · omega
  · rcases h3 b hf with h | h
    · exact hb h
    · omega
theorem MineX.gb {w u v : World} {p b : Nat} {d : DD} {l : List UInt8} (h : MineX w u p d b l) (g : GB u v) : MineX w v p d b l := by
  obtain ⟨F, h1, h2, h3, h4, h5⟩ := h
  exact ⟨F, h1.gb g, h2, GB.trans _ _ _ h3 g, h4, h5.gb g⟩
set_option maxHeartbeats 8000000 in
set_option maxRecDepth 100000 in
theorem adds_walk (n : Int) (sa : Option Addr) (xs : List SArg) (sc : Nat) (tz : Int) (c : UInt8) (w : World) (h : StepsAt w sa xs) (htz : tz ≤ 9223372036854775807) (htl : -9223372036854775808 ≤ tz) :
    Calls Try.prog 17 #[.int .i64 n, .slice sa xs.length sc, .int .i64 tz, .int .u8 (n8 c)] w fun e w' => e = .returned (.bool true) ∧ GB w w' := by
  have hkn := Lib.hid (fun u => known3_any u)
  have hmu := much_any sa xs sc 30 w h (by decide)
  have HP : Hid (∀ b, (b = false → xs.length ≤ 30 ∧ ∀ s ∈ xs, s.x.picks.length ≤ 1000) → b = false → xs.length ≤ 30 ∧ Hid (∀ s ∈ xs, s.x.picks.length ≤ 1000)) := Lib.hid (fun b hb h => ⟨(hb h).1, Lib.hid (hb h).2⟩)
  go_enter Try.func17, Try.ntmps17
  go_upto_region 1 with fail
  go_cut [33] (fun s wx => ∃ bb, s = .bool bb ∧ w = wx ∧ (bb = false → 1 ≤ n ∧ n ≤ 12 ∧ xs.length ≤ 30 ∧ Hid (∀ s ∈ xs, s.x.picks.length ≤ 1000) ∧ (tz ≤ 60 ∨ 8192 < tz)))
  case first =>
    by_cases hn1 : n < 1
    · go_wp2_with fail
      go_meet
      case rel => exact ⟨true, rfl, rfl, fun h => by cases h⟩
    · by_cases hn2 : 12 < n
      · go_wp2_with fail
        go_meet
        case rel => exact ⟨true, rfl, rfl, fun h => by cases h⟩
      · go_wp2_with fail
        refine hmu.mono ?_
        rintro e w1 ⟨b, rfl, rfl, hb⟩
        replace hb := HP.out _ hb
        cases b
        · obtain ⟨hl30, hp⟩ := hb rfl
          by_cases hz1 : 60 < tz
          · by_cases hz2 : tz ≤ 8192
            · go_wp2_with fail
              go_meet
              case rel => exact ⟨true, rfl, rfl, fun h => by cases h⟩
            · have hz3 : decide (tz ≤ 8192) = false := by rw [decide_eq_false_iff_not]; omega
              go_wp2_with fail
              go_meet
              case rel => exact ⟨false, rfl, rfl, fun _ => ⟨by omega, by omega, hl30, hp, by omega⟩⟩
          · go_wp2_with fail
            go_meet
            case rel => exact ⟨false, rfl, rfl, fun _ => ⟨by omega, by omega, hl30, hp, by omega⟩⟩
        · go_wp2_with fail
          go_meet
          case rel => exact ⟨true, rfl, rfl, fun h => by cases h⟩
  case rest =>
    obtain ⟨bb, rfl, rfl, hbb⟩ := hcut
    cases bb
    case true =>
      go_wp2_with fail
      refine (hkn.out _).mono ?_
      rintro e w2 ⟨rfl, hb2⟩
      go_wp2_with fail
      go_ret
      exact ⟨rfl, hb2⟩
    obtain ⟨hn1, hn2, hl30, hp, hz⟩ := hbb rfl
    obtain ⟨m, rfl⟩ : ∃ m : Nat, n = (m : Int) := ⟨n.toNat, by omega⟩
    have hpair := pair_any m sa xs sc w h (by omega) hp.out (by omega) (by omega)
    clear hbb hp hmu h HP hl30
    go_wp2_with fail
    refine hpair.mono ?_
    rintro e w1 ⟨p, q, k, d, r, rfl, hk, hinv, F, G, hd, hr, hdis, hF, hG, hg⟩
    have hsl : r.s.length = d.img.length := hinv.ag.len.symm
    have hfew := hinv.rg.few
    obtain ⟨va, vc, c0⟩ : ∃ va vc, w1.cell? ⟨q, 0, none⟩ = some (.slice va r.s.length vc) := by
      obtain ⟨y, hry⟩ := hr
      obtain ⟨va, vc, hva, -, -, -, -, -⟩ := Row.shape hry.row
      have hqb := hry.blk
      rw [hva] at hqb
      exact ⟨va, vc, hqb.cell 0⟩
    rw [hsl] at c0 hfew
    have hgr := grow_any p d F tz w1 hd hinv.dg
    have hst := step_inv hinv (by omega) ⟨5, tz, 0, []⟩ htz
    have hrdo : ∀ u, RefAt u q r G → Calls Try.prog 87 #[.pointer (some ⟨q, 0, none⟩), .agg #[.int .i64 5, .int .i64 tz, .int .u8 0, .slice none 0 0]] u (DoPost q r ⟨5, tz, 0, []⟩ G u) := fun u hu =>
      do_any q r G ⟨5, tz, 0, []⟩ none 0 u hu hinv.rg (Rd.nil _ _) (fun ad ha => by cases ha)
    rw [show d.do ⟨5, tz, 0, []⟩ = d.grow tz by simp [DD.do]] at hst
    have hpl := fun d1 (hq : d.grow tz = (0, d1)) hne => adds_plain d d1 hinv.dg tz hq hne (full c) (full_length c)
    unfold DoPost at hrdo
    generalize d.grow tz = da at *
    generalize r.do ⟨5, tz, 0, []⟩ = ra at *
    obtain ⟨code, d1⟩ := da
    obtain ⟨code', r1⟩ := ra
    simp only at hst hgr hrdo
    obtain ⟨rfl, hinv1⟩ := hst
    have hqc : (code != code) = false := by simp
    have HPL := Lib.hid hpl
    have HR := Lib.hid hrdo
    clear hpl hrdo hpair hinv hsl
    go_wp2_with fail
    refine hgr.mono ?_
    rintro e w2 ⟨rfl, hm2⟩
    clear hgr
    go_wp2_with fail
    refine (num_any code _).mono ?_
    rintro e v ⟨rfl, rfl⟩
    go_wp2_with fail
    have hr2 : RefAt w2 q r G := by
      obtain ⟨F', -, h2, -⟩ := hm2
      exact hr.fr h2 (fun k hk hf => hdis k hf hk)
    refine (HR.out w2 hr2).mono ?_
    rintro e w3 ⟨rfl, hm3⟩
    have hB : Both w w3 p q (k + 1) d1 r1 := Both.step hr hdis hF hG hg hinv1 hm2 (fun _ => hm3)
    clear hm2 hm3 hr2 hr hdis hF hG hg hinv1 HR hd c0
    go_wp2_with fail
    have hsh : Calls Try.prog 86 #[.pointer (some ⟨p, 0, none⟩), .pointer (some ⟨q, 0, none⟩)] w3 fun e w' => e = .returned (.bool true) ∧ GB w3 w' := by
      obtain ⟨hi2, F2, G2, hd2, hr2, -⟩ := hB
      exact shows_any p q (k + 1) _ _ F2 G2 w3 hd2 hr2 hi2 (by omega)
    refine hsh.mono ?_
    rintro e w4 ⟨rfl, hb4⟩
    replace hB := hB.gb hb4
    clear hsh hb4
    by_cases hcz : code = 0 ∧ tz ≠ d.img.length
    case neg =>
      have hgB : GB w w4 := by obtain ⟨-, F, G, -, -, -, -, -, hg⟩ := hB; exact hg
      by_cases hcz0 : code = 0
      · have ht : tz = (d.img.length : Int) := by
          by_cases e : tz = (d.img.length : Int)
          · exact e
          · exact absurd ⟨hcz0, e⟩ hcz
        subst hcz0
        clear hcz hB HPL
        subst ht
        go_wp2_with fail
        refine (hkn.out _).mono ?_
        rintro e w5 ⟨rfl, hb5⟩
        go_wp2_with fail
        go_ret
        exact ⟨rfl, GB.trans _ _ _ hgB hb5⟩
      · have hq : (code != 0) = true := by simpa using hcz0
        clear hcz hB HPL hcz0
        go_wp2_with fail
        refine (hkn.out _).mono ?_
        rintro e w5 ⟨rfl, hb5⟩
        go_wp2_with fail
        go_ret
        exact ⟨rfl, GB.trans _ _ _ hgB hb5⟩
    obtain ⟨rfl, hne⟩ := hcz
    obtain ⟨hd1g, -, htz8, hd2g, hj2, hr2, d3, d4, hw3, hd3g, hf4, hd4g, hj4, hd5g, hr5, hl5⟩ := HPL.out d1 rfl hne
    clear HPL
    have htz0 : 0 ≤ tz := by omega
    obtain ⟨hi, F, G, hd, -, -, hF, -, hg⟩ := hB
    have hcr := crash_any p d1 F none [] 0 w4 hd hd1g (by have := hi.jr; omega) (Rd.nil _ _)
    change Calls Try.prog 45 #[.pointer (some ⟨p, 0, none⟩), .slice none 0 0] w4 _ at hcr
    generalize d1.crash [] = d2 at *
    have HR2 := Lib.hid hr2
    have HW3 := Lib.hid hw3
    have HF4 := Lib.hid hf4
    have HR5 := Lib.hid hr5
    have HL5 := Lib.hid hl5
    have HJ2 := Lib.hid hj2
    have HJ4 := Lib.hid hj4
    have HNE := Lib.hid hne
    clear hr2 hw3 hf4 hr5 hl5 hj2 hj4 hi hd1g
    go_wp2_with fail
    clear HNE
    refine hcr.mono ?_
    rintro e w5 ⟨rfl, hm⟩
    have M := Mine.step hF hg hm
    clear hcr hm hF hg hd F G
    go_wp2_with fail
    obtain ⟨F, hd, hF, hg⟩ := M
    have hrd := read_any p d2 F (tz - 1) _ hd hd2g
    rw [HR2.out] at hrd
    refine hrd.mono ?_
    rintro e w6 ⟨rfl, hb6⟩
    have hd6 := hd.gb hb6
    have hg6 := GB.trans _ _ _ hg hb6
    clear hrd hd hg hb6
    simp only
    have HFL := Lib.hid (full_length c)
    have hz64 := Lib.hid (zeros_length 64)
    go_wp2_with (first | with_reducible refine halt_alloc 59 ?_ | with_reducible refine halt_store 59 ?_)
    refine L.alloc rfl zero59 (by rfl) ?_
    intro w8 hA8 hG8
    simp only [Act.put, List.setIfInBounds_toArray, List.set_cons_zero, List.set_cons_succ]
    go_wp2_with (first | with_reducible refine halt_alloc 59 ?_ | with_reducible refine halt_store 59 ?_)
    refine L.store rfl info59 (by rfl) (by rfl) hA8 (by rw [List.length_map]; exact hz64.out) hz64.out (by rfl) ?_
    intro w9 hA9 hG9
    simp only [Act.put]
    have f9 : Fr (· = w6.heap.size) w6 w9 := (Fr.of_gb hG8).trans (Fr.of_grown hG9 (fun j hj => by cases hj; rfl))
    have MX : MineX w w9 p d2 w6.heap.size (zeros 64) := ⟨F, hd6.fr f9 (fun k hk e => by have := hd6.bnd k hk; omega), hF, Fr.gbw hg6 (fun k e => by have := Below.size hg6; omega) f9, fun hf => by have := hd6.bnd _ hf; omega, hA9⟩
    have hw6 := Below.size hg6
    clear hA8 hG8 hG9 f9 hd6 hg6 hF F
    go_wp2_with (first | with_reducible refine halt_load 59 ?_ | with_reducible refine halt_bin 59 ?_ | with_reducible refine halt_build 59 ?_)
    refine L.load rfl Try.underlying59 info59 (by rfl) hA9 hz64.out (by rfl) ?_
    simp only [Act.put, List.setIfInBounds_toArray, List.set_cons_zero, List.set_cons_succ]
    go_wp2_with (first | with_reducible refine halt_load 59 ?_ | with_reducible refine halt_bin 59 ?_ | with_reducible refine halt_build 59 ?_)
    refine L.val (by rfl) (X.build59 rfl) ?_
    simp only [Act.put, List.setIfInBounds_toArray, List.set_cons_zero, List.set_cons_succ]
    have hzz : (!(zeros 64 == zeros 64)) = false := by simp
    go_wp2_with (first | with_reducible refine halt_load 59 ?_ | with_reducible refine halt_bin 59 ?_ | with_reducible refine halt_build 59 ?_)
    refine L.neq rfl Try.underlying59 guard59 (by rfl) (by rfl) hz64.out hz64.out (by rfl) ?_
    simp only [Act.put, List.setIfInBounds_toArray, List.set_cons_zero, List.set_cons_succ]
    clear hA9
    go_wp2_with fail
    refine (num_any 0 _).mono ?_
    rintro e v ⟨rfl, rfl⟩
    go_wp2_with fail
    refine (full_any c _).mono ?_
    rintro e v ⟨rfl, hbf⟩
    replace MX := MX.gb hbf
    clear hbf hzz
    obtain ⟨F, hd, hF, hg, hnb, hB⟩ := MX
    have hwr := write_any p d2 F (tz - 1) (full c) _ hd hd2g (full_length c) (by rw [HJ2.out]; decide)
    rw [HW3.out] at hwr
    have HFU : Hid (∀ u, Calls Try.prog 83 #[.int .u8 (n8 c)] u fun e w' => e = .returned (arr (full c)) ∧ GB u w') := Lib.hid (fun u => full_any c u)
    generalize full c = X1 at *
    go_wp2_with fail
    refine hwr.mono ?_
    rintro e v2 ⟨rfl, hm⟩
    have MX := MineX.step hF hg hnb hB hm
    clear hwr hm hF hg hd hnb hB F
    go_wp2_with fail
    refine (num_any 0 _).mono ?_
    rintro e v3 ⟨rfl, rfl⟩
    go_wp2_with fail
    obtain ⟨F, hd, hF, hg, hnb, hB⟩ := MX
    have hfl := flush_any p d3 F _ hd hd3g
    rw [HF4.out] at hfl
    refine hfl.mono ?_
    rintro e v4 ⟨rfl, hm⟩
    have MX := MineX.step hF hg hnb hB hm
    clear hfl hm hF hg hd hnb hB F
    go_wp2_with fail
    refine (num_any 0 _).mono ?_
    rintro e v5 ⟨rfl, rfl⟩
    go_wp2_with fail
    obtain ⟨F, hd, hF, hg, hnb, hB⟩ := MX
    have hcr := crash_any p d4 F none [] 0 _ hd hd4g (by rw [HJ4.out]; decide) (Rd.nil _ _)
    generalize d4.crash [] = d5 at *
    refine hcr.mono ?_
    rintro e v6 ⟨rfl, hm⟩
    have MX := MineX.step hF hg hnb hB hm
    clear hcr hm hF hg hd hnb hB F
    go_wp2_with fail
    refine (num_any 0 _).mono ?_
    rintro e v7 ⟨rfl, rfl⟩
    go_wp2_with fail
    obtain ⟨F, hd, hF, hg, hnb, hB⟩ := MX
    have hrd := read_any p d5 F (tz - 1) _ hd hd5g
    rw [HR5.out] at hrd
    refine hrd.mono ?_
    rintro e v8 ⟨rfl, hb8⟩
    have MX : MineX w v8 p d5 w6.heap.size (zeros 64) := MineX.gb ⟨F, hd, hF, hg, hnb, hB⟩ hb8
    clear hrd hd hF hg hnb hB F hb8
    simp only
    go_wp2_with (first | with_reducible refine halt_store 59 ?_)
    obtain ⟨F, hd, hF, hg, hnb, hB⟩ := MX
    refine L.store rfl info59 (by rfl) (by rfl) hB (by rw [List.length_map]; exact hz64.out) HFL.out (by rfl) ?_
    intro w10 hA10 hG10
    simp only [Act.put]
    have f10 : Fr (· = w6.heap.size) v8 w10 := Fr.of_grown hG10 (fun j hj => by cases hj; rfl)
    have hd10 := hd.fr f10 (fun k hk e => hnb (e ▸ hk))
    have hg10 : GB w w10 := Fr.gbw hg (fun k e => by omega) f10
    clear f10 hG10 hB hnb hg hF hd
    have hqx : (X1 == X1) = true := by simp
    have hsec := fun u (hu : GB w10 u) => sectors_any p d5 F u (hd10.gb hu)
    rw [HL5.out] at hsec
    have HSEC := Lib.hid hsec
    clear hsec hd10
    go_upto_region 18 with fail
    have hA10d := Blk.gb hA10 (GB.drew w10)
    refine region_gb [(0,0),(1,0),(2,1),(3,0),(4,0),(5,0),(6,1),(7,0),(8,0),(9,0),(10,0),(12,0),(11,1),(13,0),(14,0),(15,0),(16,1),(17,0),(18,2)] [18] (by kernel_rfl) ?_
    refine S0 (by rfl) (by rfl) (fun u hu => X.load rfl (by rfl) Try.underlying59 info59 (hA10d.gb hu) HFL.out) ?_
    simp only [Act.put, List.setIfInBounds_toArray, List.set_cons_zero, List.set_cons_succ]
    iterate 1 (refine S0w (v := ?_) (by rfl) (by rfl) (fun u hu N hN => ?_) ?_; rotate_left; (go_simp; exact hN); simp only [Act.put, List.setIfInBounds_toArray, List.set_cons_zero, List.set_cons_succ])
    refine S1 (by rfl) (by rfl) (fun K hK => ?_)
    go_wp2_with fail
    refine (HFU.out _).mono ?_
    rintro e w11 ⟨rfl, hb11⟩
    refine hK _ _ hb11 ?_
    clear hK K
    refine S0 (by rfl) (by rfl) (fun u hu => X.eql rfl (by rfl) (by rfl) Try.underlying59 guard59 HFL.out HFL.out) ?_
    simp only [Act.put, List.setIfInBounds_toArray, List.set_cons_zero, List.set_cons_succ]
    rw [hqx]
    iterate 2 (refine S0w (v := ?_) (by rfl) (by rfl) (fun u hu N hN => ?_) ?_; rotate_left; (go_simp; exact hN); simp only [Act.put, List.setIfInBounds_toArray, List.set_cons_zero, List.set_cons_succ])
    refine S1 (by rfl) (by rfl) (fun K hK => ?_)
    go_wp2_with fail
    refine (num_any 0 _).mono ?_
    rintro e w12 ⟨rfl, rfl⟩
    refine hK _ _ (GB.refl _) ?_
    clear hK K
    iterate 5 (refine S0w (v := ?_) (by rfl) (by rfl) (fun u hu N hN => ?_) ?_; rotate_left; (go_simp; exact hN); simp only [Act.put, List.setIfInBounds_toArray, List.set_cons_zero, List.set_cons_succ])
    refine S1 (by rfl) (by rfl) (fun K hK => ?_)
    go_wp2_with fail
    refine (HSEC.out _ (GB.trans _ _ _ (GB.drew w10) hb11)).mono ?_
    rintro e w13 ⟨rfl, rfl⟩
    refine hK _ _ (GB.refl _) ?_
    clear hK K
    iterate 3 (refine S0w (v := ?_) (by rfl) (by rfl) (fun u hu N hN => ?_) ?_; rotate_left; (go_simp; exact hN); simp only [Act.put, List.setIfInBounds_toArray, List.set_cons_zero, List.set_cons_succ])
    refine S1 (by rfl) (by rfl) (fun K hK => ?_)
    go_wp2_with fail
    refine (hkn.out _).mono ?_
    rintro e w14 ⟨rfl, hb14⟩
    refine hK _ _ hb14 ?_
    clear hK K
    iterate 1 (refine S0w (v := ?_) (by rfl) (by rfl) (fun u hu N hN => ?_) ?_; rotate_left; (go_simp; exact hN); simp only [Act.put, List.setIfInBounds_toArray, List.set_cons_zero, List.set_cons_succ])
    refine S2 (by rfl) (by rfl) (fun K hK => ?_)
    go_wp2_with fail
    refine S.done ?_
    go_wp2_with fail
    go_ret
    exact ⟨rfl, GB.trans _ _ _ hg10 (GB.trans _ _ _ (GB.drew w10) (GB.trans _ _ _ hb11 hb14))⟩
end Go.Proofs.Ytiihllfjlgbfcaa
