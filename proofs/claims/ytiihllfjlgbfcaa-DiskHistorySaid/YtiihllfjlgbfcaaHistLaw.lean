/- The walk of the law DiskHistory. -/
import Derived.Test.YtiihllfjlgbfcaaDKnown
import Derived.Test.YtiihllfjlgbfcaaSteps
namespace Go.Proofs.Ytiihllfjlgbfcaa
open Go.RowKit
/-- Two disks that agree, the program's and the reference's, each the law's own. -/
def Both (w u : World) (p q k : Nat) (d : DD) (r : RD) : Prop :=
  Inv k d r ∧ ∃ F G : Nat → Prop, DiskAt u p d F ∧ RefAt u q r G ∧ (∀ k, F k → ¬ G k) ∧ (∀ k, F k → w.heap.size ≤ k) ∧ (∀ k, G k → w.heap.size ≤ k) ∧ GB w u
theorem Both.gb {w u v : World} {p q k : Nat} {d : DD} {r : RD} (h : Both w u p q k d r) (g : GB u v) : Both w v p q k d r := by
  obtain ⟨h0, F, G, h1, h2, h3, h4, h5, h6⟩ := h
  exact ⟨h0, F, G, h1.gb g, h2.gb g, h3, h4, h5, GB.trans _ _ _ h6 g⟩
theorem DiskAt.bnd {w : World} {p : Nat} {d : DD} {F : Nat → Prop} (h : DiskAt w p d F) : ∀ k, F k → k < w.heap.size := by obtain ⟨y, hy⟩ := h; exact hy.bnd
theorem RefAt.bnd {w : World} {q : Nat} {r : RD} {G : Nat → Prop} (h : RefAt w q r G) : ∀ k, G k → k < w.heap.size := by obtain ⟨y, hy⟩ := h; exact hy.bnd
/-- The program's disk and then the reference's did a step. -/
theorem Both.step {w u v x : World} {p q k' : Nat} {d' : DD} {r r' : RD} {F G : Nat → Prop} (hr : RefAt u q r G) (hd : ∀ k, F k → ¬ G k) (hF : ∀ k, F k → w.heap.size ≤ k) (hG : ∀ k, G k → w.heap.size ≤ k) (hg : GB w u)
    (hi : Inv k' d' r') (m1 : Moved p d' F u v) (m2 : RefAt v q r G → RMoved q r' G v x) : Both w x p q k' d' r' := by
  obtain ⟨F', a1, a2, a3⟩ := m1
  have hr1 := hr.fr a2 (fun k hk hf => hd k hf hk)
  obtain ⟨G', b1, b2, b3⟩ := m2 hr1
  have hs := Below.size hg
  have hF' : ∀ k, F' k → ¬ G k := fun k hk hgk => by
    rcases a3 k hk with h | h
    · exact hd k h hgk
    · have := hr.bnd k hgk; omega
  have ha1 := a1.fr b2 hF'
  have hb := a1.bnd
  have hs1 := a2.size
  refine ⟨hi, F', G', ha1, b1, fun k hk hgk => ?_, fun k hk => ?_, fun k hk => ?_, Fr.gbw (a2.gbw hg hF) hG b2⟩
  · rcases b3 k hgk with h | h
    · exact hF' k hk h
    · have := hb k hk; omega
  · rcases a3 k hk with h | h
    · exact hF k h
    · omega
  · rcases b3 k hk with h | h
    · exact hG k h
    · omega
set_option maxHeartbeats 8000000 in
set_option maxRecDepth 100000 in
theorem history_walk (n : Int) (sa : Option Addr) (xs : List SArg) (sc : Nat) (w : World) (h : StepsAt w sa xs) :
    Calls Try.prog 16 #[.int .i64 n, .slice sa xs.length sc] w fun e w' => e = .returned (.bool true) ∧ GB w w' := by
  have hkn := Lib.hid (fun u => known3_any u)
  have hmu := much_any sa xs sc 50 w h (by decide)
  have hsm := small_any n w
  by_cases hsmall : n ≤ 12 ∨ 8192 < n
  · have hq : (decide (n ≤ 12) || decide (8192 < n)) = true := by simpa using hsmall
    rw [hq] at hsm
    go_enter Try.func16, Try.ntmps16
    go_wp2_with fail
    refine hsm.mono ?_
    rintro e w1 ⟨rfl, rfl⟩
    go_wp2_with fail
    refine hmu.mono ?_
    rintro e w1 ⟨b, rfl, rfl, hb⟩
    cases b
    · obtain ⟨hl50, hp⟩ := hb rfl
      by_cases hbad : n < 1 ∨ 8192 < n
      · have h1 := new_bad n w hbad
        have h2 := rnew_bad n w hbad
        go_wp2_with fail
        refine h1.mono ?_
        rintro e w2 ⟨rfl, rfl⟩
        go_wp2_with fail
        refine h2.mono ?_
        rintro e w2 ⟨rfl, rfl⟩
        go_wp2_with fail
        refine (num_any 2 _).mono ?_
        rintro e w2 ⟨rfl, rfl⟩
        go_wp2_with fail
        refine (hkn.out _).mono ?_
        rintro e w2 ⟨rfl, hb2⟩
        go_wp2_with fail
        go_ret
        exact ⟨rfl, hb2⟩
      · obtain ⟨m, rfl⟩ : ∃ m : Nat, n = (m : Int) := ⟨n.toNat, by omega⟩
        have hm0 : 0 < m := by omega
        have hm1 : m ≤ 8192 := by omega
        have h1 := new_any m w hm0 hm1
        have HP := Lib.hid hp
        clear hbad hsmall hq hsm hmu hb hp
        go_wp2_with fail
        refine h1.mono ?_
        rintro e w1 ⟨p, F, rfl, hd, hb1, hF⟩
        go_wp2_with fail
        refine (rnew_any m w1 hm0 hm1).mono ?_
        rintro e w2 ⟨q, G, rfl, hr, hb2, hG⟩
        have hs1 := hb1.size
        have hB : Both w w2 p q 0 (DD.new m) (RD.new m) := ⟨Inv.new m hm0 hm1, F, G, hd.gb hb2, hr, fun k hk hgk => by have := hd.bnd k hk; have := hG k hgk; omega, hF, fun k hk => by have := hG k hk; omega, GB.trans _ _ _ hb1 hb2⟩
        clear hd hr hb1 hb2 hF hG hs1
        go_wp2_with fail
        have hsh : Calls Try.prog 86 #[.pointer (some ⟨p, 0, none⟩), .pointer (some ⟨q, 0, none⟩)] w2 fun e w' => e = .returned (.bool true) ∧ GB w2 w' := by
          obtain ⟨hi, F, G, hd, hr, -⟩ := hB
          exact shows_any p q 0 _ _ F G w2 hd hr hi (by decide)
        refine hsh.mono ?_
        rintro e w3 ⟨rfl, hb3⟩
        have hB3 := hB.gb hb3
        clear hB hsh hb3 h1
        go_wp2_with fail
        go_loopw [9] (fun x wr => ∃ i : Nat, x = .int .i64 i ∧ i ≤ xs.length ∧ ∃ d r, Both w wr p q i d r) (fun x _ => xs.length - (intOf x).toNat)
        case atStart => exact ⟨0, rfl, by omega, _, _, hB3⟩
        case round =>
          obtain ⟨i, rfl, hil, d, r, hinv, F, G, hd, hr, hdis, hF, hG, hg⟩ := hrel
          by_cases hlt : i < xs.length
          · obtain ⟨g, o, rfl, c0, c1, c2, c3⟩ := h.at i hlt
            have hmem := List.getElem_mem hlt
            obtain ⟨hpr, hpm, hpn⟩ := h.picks _ hmem
            have hpl := HP.out _ hmem
            have hgl : g < w.heap.size := World.block_lt_of_cell? _ _ c0
            generalize xs[i] = s at *
            obtain ⟨x, pa, pc⟩ := s
            simp only at c0 c1 c2 c3 hpr hpm hpn hpl
            obtain ⟨hcode, hinv'⟩ := step_inv hinv (by omega) x hpn
            have hpb : ∀ ad, pa = some ad → 0 < x.picks.length → ad.block < w.heap.size := fun ad ha h0 => by
              obtain ⟨ad', he, hc⟩ := hpr 0 (by simpa using h0)
              rw [ha] at he
              cases he
              have := World.block_lt_of_cell? _ _ hc
              rwa [Addr.block_add] at this
            have hddo := ddo_any p d F x pa pc wr.drew (hd.gb (GB.drew wr)) hinv.dg (by have := hinv.jr; omega) ((GB.trans _ _ _ hg (GB.drew wr)).rd hpr) hpl
            have hrdo : ∀ u, RefAt u q r G → GB w u → Calls Try.prog 87 #[.pointer (some ⟨q, 0, none⟩), stepV x pa pc] u (DoPost q r x G u) := fun u hu hgu =>
              do_any q r G x pa pc u hu hinv.rg (hgu.rd hpr) (fun ad ha h0 hg' => by have := hpb ad ha h0; have := hG _ hg'; omega)
            unfold stepV at hddo hrdo
            unfold DDoPost at hddo
            unfold DoPost at hrdo
            generalize d.do x = da at *
            generalize r.do x = ra at *
            obtain ⟨code, d'⟩ := da
            obtain ⟨code', r'⟩ := ra
            simp only at hcode hinv' hddo hrdo
            subst hcode
            have hqc : (code != code) = false := by simp
            have HR := Lib.hid hrdo
            have HDD := Lib.hid hddo
            have hdrw := hr.gb (GB.drew wr)
            have hgd := GB.trans _ _ _ hg (GB.drew wr)
            clear hrdo hddo hd hpr
            go_upto_region 12 with fail
            have tb : ∀ u, Fr (fun k => w.heap.size ≤ k) wr.drew u → GB w u := fun u hu => hu.gbw hgd (fun k hk => hk)
            have C0 : ∀ u, Fr (fun k => w.heap.size ≤ k) wr.drew u → u.cell? ⟨g, o + i * 4, none⟩ = some (.int .i64 x.kind) := fun u hu => (tb u hu).cell c0
            have C1 : ∀ u, Fr (fun k => w.heap.size ≤ k) wr.drew u → u.cell? ⟨g, o + i * 4 + 1, none⟩ = some (.int .i64 x.n) := fun u hu => (tb u hu).cell c1
            have C2 : ∀ u, Fr (fun k => w.heap.size ≤ k) wr.drew u → u.cell? ⟨g, o + i * 4 + 2, none⟩ = some (.int .u8 (n8 x.fill)) := fun u hu => (tb u hu).cell c2
            have C3 : ∀ u, Fr (fun k => w.heap.size ≤ k) wr.drew u → u.cell? ⟨g, o + i * 4 + 3, none⟩ = some (.slice pa x.picks.length pc) := fun u hu => (tb u hu).cell c3
            go_cut [73] (fun s wx => s = .bool false ∧ Both w wx p q (i + 1) d' r')
            case first =>
              refine region_fr (F := fun k => w.heap.size ≤ k) [(0,0),(1,0),(2,0),(3,0),(4,0),(6,0),(7,0),(8,0),(9,0),(10,0),(5,1),(11,1),(12,0),(13,0),(14,0),(15,0),(16,1),(17,0),(18,0)] [] (by kernel_rfl) ?_
              iterate 10 (refine S0w (v := ?_) (by rfl) (by rfl) (fun u hu N hN => ?_) ?_; rotate_left; (go_simp; exact hN); simp only [Act.put, List.setIfInBounds_toArray, List.set_cons_zero, List.set_cons_succ])
              refine S1 (by rfl) (by rfl) (fun K hK => ?_)
              go_wp2_with fail
              refine (HDD.out).mono ?_
              rintro e w5 ⟨rfl, hm5⟩
              have hf5 : Fr F wr.drew w5 := by obtain ⟨F', -, h2, -⟩ := hm5; exact h2
              refine hK _ _ (hf5.mono (fun k _ hk => hF k hk)) ?_
              clear hK K
              have hr5 := hdrw.fr hf5 (fun k hk hf => hdis k hf hk)
              have hg5 := hf5.gbw hgd hF
              refine S1 (by rfl) (by rfl) (fun K hK => ?_)
              go_wp2_with fail
              refine (HR.out w5 hr5 hg5).mono ?_
              rintro e w6 ⟨rfl, hm6⟩
              have hf6 : Fr G w5 w6 := by obtain ⟨F', -, h2, -⟩ := hm6; exact h2
              refine hK _ _ (hf6.mono (fun k _ hk => hG k hk)) ?_
              clear hK K
              have hB6 : Both w w6 p q (i + 1) d' r' := Both.step hdrw hdis hF hG hgd hinv' hm5 (fun _ => hm6)
              iterate 4 (refine S0w (v := ?_) (by rfl) (by rfl) (fun u hu N hN => ?_) ?_; rotate_left; (go_simp; exact hN); simp only [Act.put, List.setIfInBounds_toArray, List.set_cons_zero, List.set_cons_succ])
              have hsh : Calls Try.prog 86 #[.pointer (some ⟨p, 0, none⟩), .pointer (some ⟨q, 0, none⟩)] w6 fun e w' => e = .returned (.bool true) ∧ GB w6 w' := by
                obtain ⟨hi2, F2, G2, hd2, hr2, -⟩ := hB6
                exact shows_any p q (i + 1) _ _ F2 G2 w6 hd2 hr2 hi2 (by omega)
              refine S1 (by rfl) (by rfl) (fun K hK => ?_)
              go_wp2_with fail
              refine hsh.mono ?_
              rintro e w7 ⟨rfl, hb7⟩
              refine hK _ _ (Fr.of_gb hb7) ?_
              clear hK K
              repeat (refine S0w (v := ?_) (by rfl) (by rfl) (fun u hu N hN => ?_) ?_; rotate_left; (go_simp; exact hN); simp only [Act.put, List.setIfInBounds_toArray, List.set_cons_zero, List.set_cons_succ])
              refine S.done ?_
              go_wp2_with fail
              go_meet
              case rel => exact ⟨rfl, hB6.gb hb7⟩
            case rest =>
              obtain ⟨rfl, hB6⟩ := hcut
              go_wp2_with fail
              go_roundw
              case rel => exact ⟨i + 1, by go_num, by omega, _, _, hB6⟩
              case measure => simp [intOf]; omega
          · go_wp2_with fail
            refine (hkn.out _).mono ?_
            rintro e w2 ⟨rfl, hb2⟩
            go_wp2_with fail
            go_ret
            exact ⟨rfl, GB.trans _ _ _ hg hb2⟩
    · go_wp2_with fail
      refine (hkn.out _).mono ?_
      rintro e w2 ⟨rfl, hb2⟩
      go_wp2_with fail
      go_ret
      exact ⟨rfl, hb2⟩
  · have hq : (decide (n ≤ 12) || decide (8192 < n)) = false := by
      rw [Bool.or_eq_false_iff, decide_eq_false_iff_not, decide_eq_false_iff_not]; omega
    rw [hq] at hsm
    go_enter Try.func16, Try.ntmps16
    go_wp2_with fail
    refine hsm.mono ?_
    rintro e w1 ⟨rfl, rfl⟩
    go_wp2_with fail
    refine (hkn.out _).mono ?_
    rintro e w2 ⟨rfl, hb2⟩
    go_wp2_with fail
    go_ret
    exact ⟨rfl, hb2⟩
end Go.Proofs.Ytiihllfjlgbfcaa
