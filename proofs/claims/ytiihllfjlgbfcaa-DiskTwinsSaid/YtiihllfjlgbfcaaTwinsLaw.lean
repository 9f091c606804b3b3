/- The plain law and the walk of the law DiskTwins. -/
import Derived.Test.YtiihllfjlgbfcaaSteps
import Derived.Test.YtiihllfjlgbfcaaDSame
namespace Go.Proofs.Ytiihllfjlgbfcaa
open Go.RowKit
/-! ### The plain law -/
theorem foldr_turns_at (i : Nat) (img : List (List UInt8)) (hi : i < img.length) : ∀ jr : List (Nat × List UInt8), (jr.foldr (fun e l => l.set e.1 e.2) img).length = img.length ∧ (jr.foldr (fun e l => l.set e.1 e.2) img).getD i [] = (pastL jr i ++ [img.getD i []]).headD []
  | [] => ⟨rfl, rfl⟩
  | e :: jr => by
    obtain ⟨h1, h2⟩ := foldr_turns_at i img hi jr
    rw [List.foldr_cons]
    refine ⟨by rw [List.length_set, h1], ?_⟩
    rw [getD_set, h1]
    by_cases hc : e.1 = i
    · rw [if_pos ⟨hc, hi⟩]
      unfold pastL
      rw [List.filter_cons_of_pos (by simpa using hc)]
      rfl
    · rw [if_neg (fun x => hc x.1), h2]
      unfold pastL
      rw [List.filter_cons_of_neg (by simpa using hc)]
theorem lasting_at {k : Nat} {d : DD} {r : RD} (h : Inv k d r) (i : Nat) (hi : i < r.s.length) : d.lasting.getD i [] = full (r.lasts i) := by
  have hl := h.ag.len
  have hp := h.ag.past i hi
  unfold pastOf at hp
  unfold DD.lasting
  rw [(foldr_turns_at i d.img (by omega) d.jr).2, hp]
  have hpos : 0 < (r.s.getD i []).length := by
    have : r.s.getD i [] = r.s[i] := by simp [List.getD, hi]
    rw [this]; exact (h.rg.ne _ (List.getElem_mem hi)).1
  unfold RD.lasts
  generalize r.s.getD i [] = p at *
  cases p with
  | nil => simp at hpos
  | cons x p => rfl
theorem full_inj' {a b : UInt8} (h : full a = full b) : a = b := by
  have := congrArg (fun l => l.getD 0 0) h
  simpa [full] using this
def alike (r v : RD) (k : Nat) : Bool := r.now k == v.now k && r.lasts k == v.lasts k
def sameB (r v : RD) (k : Nat) : Bool := (r.s.length == v.s.length) && (List.range k).all (alike r v)
theorem sameB_succ (r v : RD) (k : Nat) : sameB r v (k + 1) = (sameB r v k && alike r v k) := by
  unfold sameB; rw [List.range_succ, List.all_append, Bool.and_assoc]; simp
theorem sameB_false (r v : RD) (k n : Nat) (h : k ≤ n) (hf : sameB r v k = false) : sameB r v n = false := by
  obtain ⟨m, rfl⟩ : ∃ m, n = k + m := ⟨n - k, by omega⟩
  clear h
  induction m with
  | zero => exact hf
  | succ m ih => rw [Nat.add_succ, sameB_succ, ih]; rfl
theorem lists_eq (l m : List (List UInt8)) (h : l.length = m.length) (he : ∀ i, i < l.length → l.getD i [] = m.getD i []) : l = m := by
  apply List.ext_getElem h
  intro i h1 h2
  have := he i h1
  simpa [List.getD, h1, h2] using this
theorem same_law {k j : Nat} {d e : DD} {r v : RD} (h : Inv k d r) (g : Inv j e v) : d.same e = sameB r v r.s.length := by
  have hl := h.ag.len
  have gl := g.ag.len
  rw [Bool.eq_iff_iff]
  unfold DD.same sameB
  rw [Bool.and_eq_true, Bool.and_eq_true, beq_iff_eq, beq_iff_eq, beq_iff_eq, List.all_eq_true]
  constructor
  · rintro ⟨h1, h2⟩
    have hlen : r.s.length = v.s.length := by rw [← hl, ← gl, h1]
    refine ⟨hlen, fun i hi => ?_⟩
    rw [List.mem_range] at hi
    have a1 := h.ag.now h.rg i hi
    have a2 := g.ag.now g.rg i (by omega)
    have b1 := lasting_at h i hi
    have b2 := lasting_at g i (by omega)
    rw [h1, a2] at a1
    rw [h2, b2] at b1
    unfold alike
    rw [Bool.and_eq_true, beq_iff_eq, beq_iff_eq]
    exact ⟨(full_inj' a1).symm, (full_inj' b1).symm⟩
  · rintro ⟨hlen, ha⟩
    have hal : ∀ i, i < r.s.length → r.now i = v.now i ∧ r.lasts i = v.lasts i := fun i hi => by
      have := ha i (List.mem_range.2 hi)
      unfold alike at this
      rwa [Bool.and_eq_true, beq_iff_eq, beq_iff_eq] at this
    refine ⟨lists_eq _ _ (by omega) fun i hi => ?_, lists_eq _ _ (by rw [lasting_length, lasting_length]; omega) fun i hi => ?_⟩
    · rw [h.ag.now h.rg i (by omega), g.ag.now g.rg i (by omega), (hal i (by omega)).1]
    · rw [lasting_length] at hi
      rw [lasting_at h i (by omega), lasting_at g i (by omega), (hal i (by omega)).2]
theorem same_comm (d e : DD) : d.same e = e.same d := by
  unfold DD.same
  rw [Bool.eq_iff_iff, Bool.and_eq_true, Bool.and_eq_true, beq_iff_eq, beq_iff_eq, beq_iff_eq, beq_iff_eq]
  exact ⟨fun h => ⟨h.1.symm, h.2.symm⟩, fun h => ⟨h.1.symm, h.2.symm⟩⟩
theorem same_self (d : DD) : d.same d = true := by
  unfold DD.same; simp
/-! ### Twins in memory -/
/-- A disk d (with its reference r), another one alike, and a copy that goes on apart with a reference of its own. -/
structure Twin (w u : World) (p q p2 p3 q2 : Nat) (d : DD) (r : RD) (Fd Gr Fo : Nat → Prop) (k : Nat) (dt : DD) (rv : RD) (Ft Gv : Nat → Prop) : Prop where
  d0 : DiskAt u p d Fd
  r0 : RefAt u q r Gr
  o0 : DiskAt u p2 d Fo
  t0 : DiskAt u p3 dt Ft
  v0 : RefAt u q2 rv Gv
  inv : Inv k dt rv
  tv : ∀ k, Ft k → ¬ Gv k
  lt : ∀ k, Ft k → w.heap.size ≤ k
  lv : ∀ k, Gv k → w.heap.size ≤ k
  df : ∀ k, (Fd k ∨ Gr k ∨ Fo k) → ¬ Ft k ∧ ¬ Gv k
  gb : GB w u
theorem Twin.on {w u x : World} {p q p2 p3 q2 : Nat} {d : DD} {r : RD} {Fd Gr Fo : Nat → Prop} {k : Nat} {dt : DD} {rv : RD} {Ft Gv : Nat → Prop} (h : Twin w u p q p2 p3 q2 d r Fd Gr Fo k dt rv Ft Gv) (g : GB u x) : Twin w x p q p2 p3 q2 d r Fd Gr Fo k dt rv Ft Gv :=
  ⟨h.d0.gb g, h.r0.gb g, h.o0.gb g, h.t0.gb g, h.v0.gb g, h.inv, h.tv, h.lt, h.lv, h.df, GB.trans _ _ _ h.gb g⟩
theorem Twin.step {w u x y : World} {p q p2 p3 q2 : Nat} {d : DD} {r : RD} {Fd Gr Fo : Nat → Prop} {k k' : Nat} {dt dt' : DD} {rv rv' : RD} {Ft Gv : Nat → Prop} (h : Twin w u p q p2 p3 q2 d r Fd Gr Fo k dt rv Ft Gv)
    (hi : Inv k' dt' rv') (m1 : Moved p3 dt' Ft u x) (m2 : RefAt x q2 rv Gv → RMoved q2 rv' Gv x y) : ∃ Ft' Gv', Twin w y p q p2 p3 q2 d r Fd Gr Fo k' dt' rv' Ft' Gv' := by
  obtain ⟨Ft', a1, a2, a3⟩ := m1
  have hv1 := h.v0.fr a2 (fun j hj hf => h.tv j hf hj)
  obtain ⟨Gv', b1, b2, b3⟩ := m2 hv1
  have hs := Below.size h.gb
  have hsx := a2.size
  have hb := a1.bnd
  have hFt' : ∀ j, Ft' j → ¬ Gv j := fun j hj hg => by
    rcases a3 j hj with h' | h'
    · exact h.tv j h' hg
    · have := h.v0.bnd j hg; omega
  refine ⟨Ft', Gv', (h.d0.fr a2 (fun j hj => (h.df j (.inl hj)).1)).fr b2 (fun j hj => (h.df j (.inl hj)).2), (h.r0.fr a2 (fun j hj => (h.df j (.inr (.inl hj))).1)).fr b2 (fun j hj => (h.df j (.inr (.inl hj))).2), (h.o0.fr a2 (fun j hj => (h.df j (.inr (.inr hj))).1)).fr b2 (fun j hj => (h.df j (.inr (.inr hj))).2), a1.fr b2 hFt', b1, hi, fun j hj hg => ?_, fun j hj => ?_, fun j hj => ?_, fun j hj => ⟨fun hf => ?_, fun hg => ?_⟩, (b2.gbw (a2.gbw h.gb h.lt) h.lv)⟩
  · rcases b3 j hg with h' | h'
    · exact hFt' j hj h'
    · have := hb j hj; omega
  · rcases a3 j hj with h' | h'
    · exact h.lt j h'
    · omega
  · rcases b3 j hj with h' | h'
    · exact h.lv j h'
    · omega
  · have hju : j < u.heap.size := by
      rcases hj with hj | hj | hj
      · exact h.d0.bnd j hj
      · exact h.r0.bnd j hj
      · exact h.o0.bnd j hj
    rcases a3 j hf with h' | h'
    · exact (h.df j hj).1 h'
    · omega
  · have hju : j < u.heap.size := by
      rcases hj with hj | hj | hj
      · exact h.d0.bnd j hj
      · exact h.r0.bnd j hj
      · exact h.o0.bnd j hj
    rcases b3 j hg with h' | h'
    · exact (h.df j hj).2 h'
    · omega
theorem RefAt.head {w : World} {q : Nat} {r : RD} {G : Nat → Prop} (h : RefAt w q r G) : ∃ va vc, Blk w q 137 [.slice va r.s.length vc, .int .i64 r.fuse, .bool r.dead] := by
  obtain ⟨y, hr⟩ := h
  obtain ⟨va, vc, hva, -, -, -, -, -⟩ := Row.shape hr.row
  have := hr.blk
  rw [hva] at this
  exact ⟨va, vc, this⟩
/-! ### The walk -/
set_option maxHeartbeats 8000000 in
set_option maxRecDepth 100000 in
theorem twins_walk (n : Int) (sa : Option Addr) (xs : List SArg) (sc : Nat) (sb : Option Addr) (ys : List SArg) (tc : Nat) (w : World) (h : StepsAt w sa xs) (h2 : StepsAt w sb ys) :
    Calls Try.prog 19 #[.int .i64 n, .slice sa xs.length sc, .slice sb ys.length tc] w fun e w' => e = .returned (.bool true) ∧ GB w w' := by
  have hkn := Lib.hid (fun u => known3_any u)
  have HM1 := Lib.hid (fun u (hu : GB w u) => much_any sa xs sc 30 u (h.gb hu) (by decide))
  have HM2 := Lib.hid (fun u (hu : GB w u) => much_any sb ys tc 30 u (h2.gb hu) (by decide))
  have HP : Hid (∀ (l : List SArg) b, (b = false → l.length ≤ 30 ∧ ∀ s ∈ l, s.x.picks.length ≤ 1000) → b = false → l.length ≤ 30 ∧ Hid (∀ s ∈ l, s.x.picks.length ≤ 1000)) := Lib.hid (fun l b hb h => ⟨(hb h).1, Lib.hid (hb h).2⟩)
  go_enter Try.func19, Try.ntmps19
  go_upto_region 1 with fail
  go_cut [28] (fun s wx => ∃ bb, s = .bool bb ∧ w = wx ∧ (bb = false → 1 ≤ n ∧ n ≤ 12 ∧ (xs.length ≤ 30 ∧ Hid (∀ s ∈ xs, s.x.picks.length ≤ 1000)) ∧ (ys.length ≤ 30 ∧ Hid (∀ s ∈ ys, s.x.picks.length ≤ 1000))))
  case first =>
    by_cases hn1 : n < 1
    · go_wp2_with fail
      go_meet
      case rel => exact ⟨true, rfl, rfl, fun h => by cases h⟩
    · by_cases hn2 : 12 < n
      · go_wp2_with fail
        go_meet
        case rel => exact ⟨true, rfl, rfl, fun h => by cases h⟩
      · go_wp2_with fail
        refine (HM1.out _ (GB.refl _)).mono ?_
        rintro e w1 ⟨b, rfl, rfl, hb⟩
        replace hb := HP.out _ _ hb
        cases b
        · have hb1 := hb rfl
          clear hb
          go_wp2_with fail
          refine (HM2.out _ (GB.refl _)).mono ?_
          rintro e w1 ⟨b, rfl, rfl, hb⟩
          replace hb := HP.out _ _ hb
          cases b
          · have hb2 := hb rfl
            clear hb
            go_wp2_with fail
            go_meet
            case rel => exact ⟨false, rfl, rfl, fun _ => ⟨by omega, by omega, hb1, hb2⟩⟩
          · go_wp2_with fail
            go_meet
            case rel => exact ⟨true, rfl, rfl, fun h => by cases h⟩
        · go_wp2_with fail
          go_meet
          case rel => exact ⟨true, rfl, rfl, fun h => by cases h⟩
  case rest =>
    obtain ⟨bb, rfl, rfl, hbb⟩ := hcut
    cases bb
    case true =>
      go_wp2_with fail
      refine (hkn.out _).mono ?_
      rintro e w2 ⟨rfl, hb2⟩
      go_wp2_with fail
      go_ret
      exact ⟨rfl, hb2⟩
    obtain ⟨hn1, hn2, ⟨hx30, hxp⟩, hy30, hyp⟩ := hbb rfl
    clear hbb HM1 HM2 HP
    obtain ⟨m, rfl⟩ : ∃ m : Nat, n = (m : Int) := ⟨n.toNat, by omega⟩
    have HPR : Hid (∀ u, GB w u → Calls Try.prog 88 #[.int .i64 m, .slice sa xs.length sc] u (fun e w' => ∃ p q, e = .returned (.tuple #[.pointer (some ⟨p, 0, none⟩), .pointer (some ⟨q, 0, none⟩)]) ∧ Both u w' p q xs.length (runD m xs) (runR m xs))) :=
      Lib.hid (fun u g => pair_det m sa xs sc u (h.gb g) (by omega) hxp.out (by omega) (by omega))
    generalize runD m xs = D at *
    generalize runR m xs = R at *
    generalize xs.length = X at *
    clear h hxp
    go_wp2_with fail
    refine (HPR.out _ (GB.refl _)).mono ?_
    rintro e w1 ⟨p, q, rfl, hi0, Fd, Gr, hd, hr, hdr, hFd, hGr, hg1⟩
    go_wp2_with fail
    refine (HPR.out _ hg1).mono ?_
    rintro e w2 ⟨p2, q2, rfl, -, Fo, Gv, ho, hv, hov, hFo, hGv, hg2⟩
    have hd2 := hd.gb hg2
    have hcp := copyd_any p D Fd w2 hd2 hi0.dg (by have := hi0.jr; omega)
    clear HPR
    go_wp2_with fail
    refine hcp.mono ?_
    rintro e w3 ⟨p3, Ft, rfl, ht, hg3, hFt⟩
    have hg23 := GB.trans _ _ _ hg2 hg3
    have hT : Twin w w3 p q p2 p3 q2 D R Fd Gr Fo (X + 0) D R Ft Gv := by
      have s1 := Below.size hg1
      have s2 := Below.size hg2
      have hvb := hv.bnd
      have hob := ho.bnd
      have hdb := hd.bnd
      have hrb := hr.bnd
      refine ⟨hd2.gb hg3, hr.gb hg23, ho.gb hg3, ht, hv.gb hg3, hi0, fun j hj hg => ?_, fun j hj => ?_, fun j hj => ?_, fun j hj => ⟨fun hf => ?_, fun hg => ?_⟩, GB.trans _ _ _ hg1 hg23⟩
      · have := hFt j hj; have := hvb j hg; omega
      · have := hFt j hj; omega
      · have := hGv j hj; omega
      · have := hFt j hf
        rcases hj with hj | hj | hj
        · have := hdb j hj; omega
        · have := hrb j hj; omega
        · have := hob j hj; omega
      · have := hGv j hg
        rcases hj with hj | hj | hj
        · have := hdb j hj; omega
        · have := hrb j hj; omega
        · exact hov j hj hg
    clear hd hr hdr hFd hGr hg1 ho hv hov hFo hGv hg2 hd2 hcp ht hg3 hFt hg23
    have HI0 := Lib.hid hi0
    have hRf := hi0.rg.few
    clear hi0
    go_wp2_with fail
    go_loopw [12] (fun x wr => ∃ (i : Nat) (dt : DD) (rv : RD) (Ft Gv : Nat → Prop), x = .int .i64 i ∧ i ≤ ys.length ∧ Twin w wr p q p2 p3 q2 D R Fd Gr Fo (X + i) dt rv Ft Gv) (fun x _ => ys.length - (intOf x).toNat)
    case atStart => exact ⟨0, D, R, Ft, Gv, rfl, by omega, hT⟩
    case round =>
      obtain ⟨i, dt, rv, Ft, Gv, rfl, hil, hT⟩ := hrel
      by_cases hlt : i < ys.length
      · obtain ⟨g, o, rfl, c0, c1, c2, c3⟩ := h2.at i hlt
        have hmem := List.getElem_mem hlt
        obtain ⟨hpr, hpm, hpn⟩ := h2.picks _ hmem
        have hpl := hyp.out _ hmem
        generalize ys[i] = s at *
        obtain ⟨x, pa, pc⟩ := s
        simp only at c0 c1 c2 c3 hpr hpm hpn hpl
        have hinv := hT.inv
        obtain ⟨hcode, hinv'⟩ := step_inv hinv (by omega) x hpn
        have hpb : ∀ ad, pa = some ad → 0 < x.picks.length → ad.block < w.heap.size := fun ad ha h0 => by
          obtain ⟨ad', he, hc⟩ := hpr 0 (by simpa using h0)
          rw [ha] at he
          cases he
          have := World.block_lt_of_cell? _ _ hc
          rwa [Addr.block_add] at this
        have hTd := hT.on (GB.drew wr)
        have hddo := ddo_any p3 dt Ft x pa pc wr.drew hTd.t0 hinv.dg (by have := hinv.jr; omega) (hTd.gb.rd hpr) hpl
        have hrdo : ∀ u, RefAt u q2 rv Gv → GB w u → Calls Try.prog 87 #[.pointer (some ⟨q2, 0, none⟩), stepV x pa pc] u (DoPost q2 rv x Gv u) := fun u hu hgu =>
          do_any q2 rv Gv x pa pc u hu hinv.rg (hgu.rd hpr) (fun ad ha h0 hg' => by have := hpb ad ha h0; have := hT.lv _ hg'; omega)
        unfold stepV at hddo hrdo
        unfold DDoPost at hddo
        unfold DoPost at hrdo
        generalize dt.do x = da at *
        generalize rv.do x = ra at *
        obtain ⟨code, dt'⟩ := da
        obtain ⟨code', rv'⟩ := ra
        simp only at hcode hinv' hddo hrdo
        subst hcode
        have hqc : (code != code) = false := by simp
        have HR := Lib.hid hrdo
        have HDD := Lib.hid hddo
        have HT := Lib.hid hTd
        clear hrdo hddo hpr hT
        go_upto_region 11 with fail
        have tb : ∀ u, Fr (fun k => w.heap.size ≤ k) wr.drew u → GB w u := fun u hu => hu.gbw HT.out.gb (fun k hk => hk)
        have C0 : ∀ u, Fr (fun k => w.heap.size ≤ k) wr.drew u → u.cell? ⟨g, o + i * 4, none⟩ = some (.int .i64 x.kind) := fun u hu => (tb u hu).cell c0
        have C1 : ∀ u, Fr (fun k => w.heap.size ≤ k) wr.drew u → u.cell? ⟨g, o + i * 4 + 1, none⟩ = some (.int .i64 x.n) := fun u hu => (tb u hu).cell c1
        have C2 : ∀ u, Fr (fun k => w.heap.size ≤ k) wr.drew u → u.cell? ⟨g, o + i * 4 + 2, none⟩ = some (.int .u8 (n8 x.fill)) := fun u hu => (tb u hu).cell c2
        have C3 : ∀ u, Fr (fun k => w.heap.size ≤ k) wr.drew u → u.cell? ⟨g, o + i * 4 + 3, none⟩ = some (.slice pa x.picks.length pc) := fun u hu => (tb u hu).cell c3
        clear tb hTd
        go_cut [72] (fun s wx => s = .bool false ∧ ∃ Ft' Gv', Twin w wx p q p2 p3 q2 D R Fd Gr Fo (X + i + 1) dt' rv' Ft' Gv')
        case first =>
          refine region_fr (F := fun k => w.heap.size ≤ k) [(0,0),(1,0),(2,0),(3,0),(4,0),(5,0),(6,0),(7,0),(9,0),(10,0),(11,0),(12,0),(13,0),(8,1),(14,1),(15,0),(16,0)] [] (by kernel_rfl) ?_
          iterate 13 (refine S0w (v := ?_) (by rfl) (by rfl) (fun u hu N hN => ?_) ?_; rotate_left; (go_simp; exact hN); simp only [Act.put, List.setIfInBounds_toArray, List.set_cons_zero, List.set_cons_succ])
          refine S1 (by rfl) (by rfl) (fun K hK => ?_)
          go_wp2_with fail
          refine (HDD.out).mono ?_
          rintro e w5 ⟨rfl, hm5⟩
          have hf5 : Fr Ft wr.drew w5 := by obtain ⟨F', -, h2, -⟩ := hm5; exact h2
          refine hK _ _ (hf5.mono (fun k _ hk => HT.out.lt k hk)) ?_
          clear hK K C0 C1 C2 C3
          have hr5 := HT.out.v0.fr hf5 (fun k hk hf => HT.out.tv k hf hk)
          have hg5 := hf5.gbw HT.out.gb HT.out.lt
          refine S1 (by rfl) (by rfl) (fun K hK => ?_)
          go_wp2_with fail
          refine (HR.out w5 hr5 hg5).mono ?_
          rintro e w6 ⟨rfl, hm6⟩
          have hf6 : Fr Gv w5 w6 := by obtain ⟨F', -, h2, -⟩ := hm6; exact h2
          refine hK _ _ (hf6.mono (fun k _ hk => HT.out.lv k hk)) ?_
          clear hK K
          have hB6 := Twin.step HT.out hinv' hm5 (fun _ => hm6)
          repeat (refine S0w (v := ?_) (by rfl) (by rfl) (fun u hu N hN => ?_) ?_; rotate_left; (go_simp; exact hN); simp only [Act.put, List.setIfInBounds_toArray, List.set_cons_zero, List.set_cons_succ])
          refine S.done ?_
          go_wp2_with fail
          go_meet
          case rel => exact ⟨rfl, hB6⟩
        case rest =>
          obtain ⟨rfl, Ft', Gv', hT'⟩ := hcut
          clear C0 C1 C2 C3 HDD HR HT c0 c1 c2 c3 hqc
          have hiv := hT'.inv
          go_upto_region 13 with fail
          have hTd := hT'.on (GB.drew wc)
          obtain ⟨va, vc, hqr⟩ := hTd.r0.head
          obtain ⟨va2, vc2, hqv⟩ := hTd.v0.head
          have C0 : ∀ u, GB wc.drew u → u.cell? ⟨q, 0, none⟩ = some (.slice va R.s.length vc) := fun u hu => (hqr.gb hu).cell 0
          have C1 : ∀ u, GB wc.drew u → u.cell? ⟨q2, 0, none⟩ = some (.slice va2 rv'.s.length vc2) := fun u hu => (hqv.gb hu).cell 0
          have hs0 : ((R.s.length : Int) == (rv'.s.length : Int)) = sameB R rv' 0 := by
            unfold sameB
            rw [List.range_zero, List.all_nil, Bool.and_true, Bool.eq_iff_iff, beq_iff_eq, beq_iff_eq]
            omega
          have HS1 := Lib.hid (same_law HI0.out hiv)
          have HLT : Hid (∀ j, sameB R rv' j = true → R.s.length = rv'.s.length) := Lib.hid (fun j hj => by
            unfold sameB at hj
            rw [Bool.and_eq_true, beq_iff_eq] at hj
            exact hj.1)
          have HIV := Lib.hid hiv
          have HTD := Lib.hid hTd
          clear hiv hTd hT' hinv hinv'
          have hqr0 := hqr
          have hqv0 := hqv
          refine region_gb [(0,0),(1,0),(2,0),(3,0),(4,0),(5,0),(6,0),(7,0),(8,0),(9,0),(10,0),(11,2)] [11] (by kernel_rfl) ?_
          iterate 11 (refine S0w (v := ?_) (by rfl) (by rfl) (fun u hu N hN => ?_) ?_; rotate_left; (go_simp; exact hN); simp only [Act.put, List.setIfInBounds_toArray, List.set_cons_zero, List.set_cons_succ])
          try rw [hs0]
          refine S2 (by rfl) (by rfl) (fun K hK => ?_)
          go_wp2_with fail
          refine S.done ?_
          clear C0 C1 hs0
          generalize wc.drew = wk at *
          go_upto_block 2 with fail
          go_cut [13] (fun s wx => s = .bool (sameB R rv' R.s.length) ∧ GB wk wx)
          case first =>
            go_wp2_with fail
            go_loopw [13, 14] (fun b x wr => ∃ j : Nat, x = .int .i64 j ∧ j ≤ R.s.length ∧ b = .bool (sameB R rv' j) ∧ GB wk wr) (fun _ x _ => R.s.length - (intOf x).toNat)
            case atStart => exact ⟨0, rfl, by omega, rfl, GB.refl _⟩
            case round =>
              obtain ⟨j, rfl, hj, rfl, hgj⟩ := hrel
              have c0 := (hqr.gb hgj).cell 0
              have hex : R.s.length ≤ j → sameB R rv' j = sameB R rv' R.s.length := fun hh => by rw [show j = R.s.length by omega]
              have hfs : sameB R rv' j = false → sameB R rv' R.s.length = false := sameB_false R rv' j _ hj
              have HEX := Lib.hid hex
              have HFS := Lib.hid hfs
              clear hex hfs
              by_cases hlj : j < R.s.length
              · obtain ⟨b, hb⟩ : ∃ b, sameB R rv' j = b := ⟨_, rfl⟩
                rw [hb]
                cases b
                · have HBQ := Lib.hid (HFS.out hb)
                  clear hb
                  go_wp2_with fail
                  go_meet
                  case rel => exact ⟨by rw [HBQ.out], hgj⟩
                · have hlen := HLT.out j hb
                  have hsu := sameB_succ R rv' j
                  rw [hb, Bool.true_and] at hsu
                  have hn1 := fun u (g : GB wr u) => now_any q R Gr j u (HTD.out.r0.gb (GB.trans _ _ _ hgj g)) HI0.out.rg hlj
                  have hn2 := fun u (g : GB wr u) => now_any q2 rv' Gv' j u (HTD.out.v0.gb (GB.trans _ _ _ hgj g)) HIV.out.rg (by omega)
                  have hl1 := fun u (g : GB wr u) => lasts_any q R Gr j u (HTD.out.r0.gb (GB.trans _ _ _ hgj g)) HI0.out.rg hlj
                  have hl2 := fun u (g : GB wr u) => lasts_any q2 rv' Gv' j u (HTD.out.v0.gb (GB.trans _ _ _ hgj g)) HIV.out.rg (by omega)
                  unfold alike at hsu
                  have qa := n8_beq (R.now j) (rv'.now j)
                  have qb := n8_beq (R.lasts j) (rv'.lasts j)
                  obtain ⟨ba, hba⟩ : ∃ ba, (R.now j == rv'.now j) = ba := ⟨_, rfl⟩
                  obtain ⟨bc, hbc⟩ : ∃ bc, (R.lasts j == rv'.lasts j) = bc := ⟨_, rfl⟩
                  rw [hba] at qa hsu
                  rw [hbc] at qb hsu
                  have HN1 := Lib.hid hn1
                  have HN2 := Lib.hid hn2
                  have HL1 := Lib.hid hl1
                  have HL2 := Lib.hid hl2
                  have HSU := Lib.hid hsu
                  clear hn1 hn2 hl1 hl2 hsu hba hbc hlen hb
                  go_wp2_with fail
                  refine (HN1.out _ (GB.refl _)).mono ?_
                  rintro e u1 ⟨rfl, hb1⟩
                  go_wp2_with fail
                  refine (HN2.out _ hb1).mono ?_
                  rintro e u2 ⟨rfl, hb2⟩
                  have g2 := GB.trans _ _ _ hb1 hb2
                  cases ba
                  · go_wp2_with fail
                    go_roundw
                    case rel => exact ⟨j + 1, by go_num, by omega, by rw [HSU.out]; rfl, GB.trans _ _ _ hgj g2⟩
                    case measure => simp [intOf]; omega
                  · go_wp2_with fail
                    refine (HL1.out _ g2).mono ?_
                    rintro e u3 ⟨rfl, rfl⟩
                    go_wp2_with fail
                    refine (HL2.out _ g2).mono ?_
                    rintro e u3 ⟨rfl, rfl⟩
                    go_wp2_with fail
                    go_roundw
                    case rel => exact ⟨j + 1, by go_num, by omega, by rw [HSU.out]; rfl, GB.trans _ _ _ hgj g2⟩
                    case measure => simp [intOf]; omega
              · go_wp2_with fail
                go_meet
                case rel => exact ⟨by rw [HEX.out (by omega)], hgj⟩
          case rest =>
            obtain ⟨rfl, hgk⟩ := hcut
            have hTk := HTD.out.on hgk
            have hsa := fun u (g : GB wc u) => same_any p3 p dt' D Ft' Fd u (hTk.t0.gb g) HIV.out.dg (by have := HIV.out.jr; omega) (hTk.d0.gb g) HI0.out.dg (by have := HI0.out.jr; omega)
            have hsb := fun u (g : GB wc u) => same_any p p3 D dt' Fd Ft' u (hTk.d0.gb g) HI0.out.dg (by have := HI0.out.jr; omega) (hTk.t0.gb g) HIV.out.dg (by have := HIV.out.jr; omega)
            have hsc := fun u (g : GB wc u) => same_any p p2 D D Fd Fo u (hTk.d0.gb g) HI0.out.dg (by have := HI0.out.jr; omega) (hTk.o0.gb g) HI0.out.dg (by have := HI0.out.jr; omega)
            rw [same_comm dt' D, HS1.out] at hsa
            rw [HS1.out] at hsb
            rw [same_self] at hsc
            generalize sameB R rv' R.s.length = S at *
            have HSA := Lib.hid hsa
            have HSB := Lib.hid hsb
            have HSC := Lib.hid hsc
            have HTK := Lib.hid hTk
            have hqs : (S != S) = false := by simp
            clear hsa hsb hsc hTk hqr hqv hqr0 hqv0
            go_wp2_with fail
            refine (HSA.out _ (GB.refl _)).mono ?_
            rintro e u1 ⟨rfl, g1⟩
            go_wp2_with fail
            refine (HSB.out _ g1).mono ?_
            rintro e u2 ⟨rfl, g2⟩
            replace g2 := GB.trans _ _ _ g1 g2
            go_wp2_with fail
            refine (HSC.out _ g2).mono ?_
            rintro e u3 ⟨rfl, g3⟩
            replace g3 := GB.trans _ _ _ g2 g3
            go_wp2_with fail
            go_roundw
            case rel => exact ⟨i + 1, dt', rv', Ft', Gv', by go_num, by omega, HTK.out.on g3⟩
            case measure => simp [intOf]; omega
      · have hsh := fun u (g : GB wr u) => shows_any p q X D R Fd Gr u (hT.d0.gb g) (hT.r0.gb g) HI0.out (by omega)
        have hgw := hT.gb
        have HSH := Lib.hid hsh
        clear hsh hT
        go_wp2_with fail
        refine (HSH.out _ (GB.refl _)).mono ?_
        rintro e u1 ⟨rfl, g1⟩
        go_wp2_with fail
        refine (hkn.out _).mono ?_
        rintro e u2 ⟨rfl, g2⟩
        go_wp2_with fail
        go_ret
        exact ⟨rfl, GB.trans _ _ _ hgw (GB.trans _ _ _ g1 g2)⟩
end Go.Proofs.Ytiihllfjlgbfcaa
