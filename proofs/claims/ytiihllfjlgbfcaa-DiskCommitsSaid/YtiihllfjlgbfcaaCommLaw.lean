/- The plain law and the walk of the law DiskCommits. -/
import Derived.Test.YtiihllfjlgbfcaaSteps
namespace Go.Proofs.Ytiihllfjlgbfcaa
open Go.RowKit
theorem step_dead {d : DD} (h : d.dead = true) : d.step = (10, d) := by
  obtain ⟨img, jr, l, b⟩ := d
  simp only at h
  subst h
  simp [DD.step]
theorem step_out {d : DD} (h : d.dead = false) (hl : d.left = 0) : d.step = (10, { d with dead := true }) := by
  simp [DD.step, h, hl]
theorem step_ok {d : DD} (h : d.dead = false) (hl : 0 < d.left) : d.step = (0, { d with left := d.left - 1 }) := by
  obtain ⟨img, jr, l, b⟩ := d
  simp only at h hl
  subst h
  have h0 : (l == 0) = false := by rw [beq_eq_false_iff_ne]; omega
  simp [DD.step, h0, hl]
theorem write_in {d : DD} (k : Nat) (hk : k < d.img.length) (s : List UInt8) : d.write (k : Int) s = if d.step.1 = 0 then (0, d.step.2.put k s) else d.step := by
  have hh : d.has (k : Int) = 0 := by unfold DD.has; rw [if_neg (by omega)]
  unfold DD.write
  rw [hh, if_pos rfl, Int.toNat_natCast]
/-- The disk after some writes above sector 0. -/
structure CInv (n : Nat) (fuse : Int) (steps : Nat) (want : List UInt8) (d : DD) : Prop where
  dg : DGood d
  len : d.img.length = n
  wlen : want.length = n
  jr : d.jr.length ≤ steps
  zero : d.img.getD 0 [] = full 0
  off : ∀ e ∈ d.jr, e.1 ≠ 0
  st : (d.dead = false ∧ d.left = fuse - steps ∧ (steps : Int) ≤ fuse ∧ ∀ i, i < n → d.img.getD i [] = full (want.getD i 0)) ∨ (d.dead = true ∧ fuse < steps)
theorem noughts_at (n i : Nat) (h : i < n) : (noughts n).getD i [] = full 0 := by
  simp [noughts, List.getD, h, zeros, full]
theorem CInv.new (n : Nat) (fuse : Int) (h0 : 0 < n) (h1 : n ≤ 8192) (hf : 0 ≤ fuse) (hf1 : fuse ≤ 9223372036854775807) : CInv n fuse 0 (List.replicate n 0) { DD.new n with left := fuse } := by
  have hg := DD.new_good n h0 h1
  refine ⟨⟨hg.some, hg.few, hg.sec, hg.ent, hg.inn, by simp only; omega, hf1⟩, by simp [DD.new, noughts], by simp, by simp [DD.new], noughts_at n 0 h0, fun e he => by simp [DD.new] at he, .inl ⟨rfl, by simp, by omega, fun i hi => ?_⟩⟩
  rw [show (List.replicate n (0 : UInt8)).getD i 0 = 0 by simp [List.getD, hi]]
  exact noughts_at n i hi
theorem CInv.write {n : Nat} {fuse : Int} {steps : Nat} {want : List UInt8} {d : DD} (h : CInv n fuse steps want d) (k : Nat) (c : UInt8) (hk0 : 0 < k) (hk : k < n) :
    CInv n fuse (steps + 1) (want.set k c) (d.write (k : Int) (full c)).2 := by
  have hlk : k < d.img.length := by rw [h.len]; exact hk
  rw [write_in k hlk]
  rcases h.st with ⟨hdd, hl, hs, hw⟩ | ⟨hdd, hs⟩
  · by_cases h0 : d.left = 0
    · rw [step_out hdd h0, if_neg (show ¬ ((10 : Int) = 0) by decide)]
      exact ⟨⟨h.dg.some, h.dg.few, h.dg.sec, h.dg.ent, h.dg.inn, h.dg.lo, h.dg.hi⟩, h.len, by simp [h.wlen], by have := h.jr; simp only; omega, h.zero, h.off, .inr ⟨rfl, by omega⟩⟩
    · have hst := step_ok hdd (by omega)
      have hsg := h.dg.step
      rw [hst] at hsg ⊢
      rw [if_pos rfl]
      have hp := DGood.put hsg k hlk (full c) (full_length c)
      refine ⟨hp, by simp only [DD.put, List.length_set]; exact h.len, by simp [h.wlen], by have := h.jr; simp only [DD.put, List.length_append, List.length_singleton]; omega, ?_, fun e he => ?_, .inl ⟨hdd, ?_, by omega, fun i hi => ?_⟩⟩
      · simp only [DD.put]
        rw [getD_set, if_neg (by omega)]; exact h.zero
      · simp only [DD.put] at he
        rcases List.mem_append.1 he with h' | h'
        · exact h.off e h'
        · simp only [List.mem_singleton] at h'
          subst h'; simp only; omega
      · simp only [DD.put]; omega
      · simp only [DD.put]
        rw [getD_set, getD_set, h.wlen]
        by_cases e : k = i
        · subst e; rw [if_pos ⟨rfl, hlk⟩, if_pos ⟨rfl, hk⟩]
        · rw [if_neg (fun x => e x.1), if_neg (fun x => e x.1)]; exact hw i hi
  · rw [step_dead hdd, if_neg (show ¬ ((10 : Int) = 0) by decide)]
    exact ⟨h.dg, h.len, by simp [h.wlen], by have := h.jr; show d.jr.length ≤ _; omega, h.zero, h.off, .inr ⟨hdd, by omega⟩⟩
/-- What may be read after the crash. -/
structure COut (n : Nat) (fuse : Int) (steps : Nat) (want : List UInt8) (last : UInt8) (d : DD) : Prop where
  dg : DGood d
  len : d.img.length = n
  some : d.img.getD 0 [] = full 0 ∨ d.img.getD 0 [] = full last
  done : (steps : Int) + 3 ≤ fuse → d.img.getD 0 [] = full last
  rest : (steps : Int) + 1 ≤ fuse ∨ (d.img.getD 0 [] = full last ∧ last ≠ 0) → ∀ i, 0 < i → i < n → d.img.getD i [] = full (want.getD i 0)
theorem full_inj {a b : UInt8} (h : full a = full b) : a = b := by
  have := congrArg (fun l => l.getD 0 0) h
  simpa [full] using this
theorem crash_keeps (d : DD) (hg : DGood d) (picks : List Int) (i : Nat) (hp : pastL d.jr i = []) : (d.crash picks).img.getD i [] = d.img.getD i [] := by
  have key : ∀ m, m ≤ (openL d.jr).length → (crashK d picks m).getD i [] = d.img.getD i [] := by
    intro m
    induction m with
    | zero => intro _; rfl
    | succ m ih =>
      intro hm
      obtain ⟨j, hj, hjl, hjp⟩ := open_at d hg m (by omega)
      have e0 : (openL d.jr).getD m 0 = (j : Int) := by rw [← hj]; simp [List.getD, show m < (openL d.jr).length by omega]
      have hne : j ≠ i := fun e => by subst e; rw [hp] at hjp; simp at hjp
      rw [crashK, e0, Int.toNat_natCast, getD_set, if_neg (fun h => hne h.1), ih (by omega)]
  exact key _ (Nat.le_refl _)
theorem crash_one (d : DD) (z : List UInt8) (hj : d.jr = [(0, z)]) (hl : 0 < d.img.length) (picks : List Int) : (d.crash picks).img.getD 0 [] = z ∨ (d.crash picks).img.getD 0 [] = d.img.getD 0 [] := by
  have ho : openL d.jr = [0] := by rw [hj]; rfl
  have hv : d.vers 0 = [z, d.img.getD 0 []] := by
    have hp : pastL d.jr 0 = [z] := by rw [hj]; rfl
    unfold DD.vers
    rw [hp]; rfl
  have e : (d.crash picks).img = d.img.set 0 ((d.vers 0).getD (pickN picks 0 (d.vers 0).length) []) := by
    show crashK d picks (openL d.jr).length = _
    rw [ho]
    show crashK d picks (0 + 1) = _
    rw [crashK, ho]
    rfl
  have hlt := pickN_lt picks 0 2 (by decide)
  rw [e, getD_set, if_pos ⟨rfl, hl⟩, hv]
  show ([z, d.img.getD 0 []]).getD (pickN picks 0 2) [] = z ∨ ([z, d.img.getD 0 []]).getD (pickN picks 0 2) [] = _
  generalize pickN picks 0 2 = m at hlt
  match m, hlt with
  | 0, _ => exact .inl rfl
  | 1, _ => exact .inr rfl
theorem pastL_off (jr : List (Nat × List UInt8)) (i : Nat) (h : ∀ e ∈ jr, e.1 ≠ i) : pastL jr i = [] := by
  unfold pastL
  rw [List.map_eq_nil_iff, List.filter_eq_nil_iff]
  intro e he
  simpa using h e he
/-- The three calls behind the writes. -/
def CEnd (n : Nat) (fuse : Int) (steps : Nat) (want : List UInt8) (last : UInt8) (picks : List Int) (d : DD) : Prop :=
  ∃ d1 d2 d3, d.flush.2 = d1 ∧ DGood d1 ∧ d1.jr.length ≤ steps ∧ (d1.write 0 (full last)).2 = d2 ∧ DGood d2 ∧ d2.jr.length ≤ steps + 1 ∧ d2.flush.2 = d3 ∧ DGood d3 ∧ d3.jr.length ≤ steps + 1 ∧ COut n fuse steps want last (d3.crash picks)
theorem flush_bad {d d' : DD} (h : d.step = (10, d')) : d.flush.2 = d' := by
  unfold DD.flush; rw [h, if_neg (show ¬ ((10 : Int) = 0) by decide)]
theorem flush_ok {d d' : DD} (h : d.step = (0, d')) : d.flush.2 = { d' with jr := [] } := by
  unfold DD.flush; rw [h, if_pos rfl]
theorem write_bad {d d' : DD} (h : d.step = (10, d')) (hl : 0 < d.img.length) (s : List UInt8) : (d.write 0 s).2 = d' := by
  have := write_in (d := d) 0 hl s
  rw [h, if_neg (show ¬ ((10 : Int) = 0) by decide)] at this
  exact congrArg Prod.snd this
theorem write_good {d d' : DD} (h : d.step = (0, d')) (hl : 0 < d.img.length) (s : List UInt8) : (d.write 0 s).2 = d'.put 0 s := by
  have := write_in (d := d) 0 hl s
  rw [h, if_pos rfl] at this
  exact congrArg Prod.snd this
theorem CInv.out {n : Nat} {fuse : Int} {steps : Nat} {want : List UInt8} {d : DD} (h : CInv n fuse steps want d) (hn : 0 < n) (last : UInt8) (picks : List Int) : CEnd n fuse steps want last picks d := by
  have hl0 : 0 < d.img.length := by rw [h.len]; exact hn
  have hclen : ∀ x : DD, x.img.length = n → (x.crash picks).img.length = n := fun x hx => by show (crashK x picks _).length = n; rw [crashK_length, hx]
  have hjr := h.jr
  -- a dead disk stays as it is
  have hdead : ∀ x : DD, DGood x → x.dead = true → x.img = d.img → x.jr = d.jr → fuse ≤ steps → d.flush.2 = x → CEnd n fuse steps want last picks d := by
    intro x hg hx hi hj hf he
    have hs := step_dead hx
    have hz := crash_keeps x hg picks 0 (by rw [hj]; exact pastL_off _ _ h.off)
    rw [hi, h.zero] at hz
    refine ⟨x, x, x, he, hg, by rw [hj]; exact hjr, write_bad hs (by rw [hi]; exact hl0) _, hg, by rw [hj]; omega, flush_bad hs, hg, by rw [hj]; omega, DGood.crash hg picks, hclen x (by rw [hi]; exact h.len), .inl hz, fun h3 => by omega, fun h3 => ?_⟩
    rcases h3 with h3 | ⟨h3, h4⟩
    · omega
    · rw [hz] at h3
      exact absurd (full_inj h3).symm h4
  rcases h.st with ⟨hdd, hl, hs, hw⟩ | ⟨hdd, hs⟩
  · by_cases h0 : d.left = 0
    · exact hdead { d with dead := true } ⟨h.dg.some, h.dg.few, h.dg.sec, h.dg.ent, h.dg.inn, h.dg.lo, h.dg.hi⟩ rfl rfl rfl (by omega) (flush_bad (step_out hdd h0))
    · have s1 := step_ok hdd (by omega)
      have g1 := h.dg.step
      rw [s1] at g1
      have f1 := flush_ok s1
      have g1' := g1.flushed
      simp only at f1 g1'
      by_cases h1 : d.left - 1 = 0
      · have s2 := step_out (d := { d with left := d.left - 1, jr := [] }) hdd h1
        have g2 : DGood { d with left := d.left - 1, jr := [], dead := true } := ⟨g1'.some, g1'.few, g1'.sec, g1'.ent, g1'.inn, g1'.lo, g1'.hi⟩
        have s3 := step_dead (d := { d with left := d.left - 1, jr := [], dead := true }) rfl
        have hk := fun i => crash_keeps _ g2 picks i rfl
        refine ⟨_, _, _, f1, g1', Nat.zero_le _, write_bad s2 hl0 _, g2, Nat.zero_le _, flush_bad s3, g2, Nat.zero_le _, DGood.crash g2 picks, hclen _ h.len, .inl ((hk 0).trans h.zero), fun h3 => by omega, fun _ i _ hi => (hk i).trans (hw i hi)⟩
      · have s2 := step_ok (d := { d with left := d.left - 1, jr := [] }) hdd (show 0 < d.left - 1 by omega)
        have g2 := g1'.step
        rw [s2] at g2
        have g3 := DGood.put g2 0 hl0 (full last) (full_length last)
        have f2 := write_good s2 hl0 (full last)
        have hlen : (d.img.set 0 (full last)).length = n := by rw [List.length_set, h.len]
        have hrest : ∀ i, 0 < i → i < n → (d.img.set 0 (full last)).getD i [] = full (want.getD i 0) := fun i hi0 hi => by rw [getD_set, if_neg (by omega)]; exact hw i hi
        have hzero : (d.img.set 0 (full last)).getD 0 [] = full last := by rw [getD_set, if_pos ⟨rfl, hl0⟩]
        by_cases h2 : d.left - 1 - 1 = 0
        · have s3 := step_out (d := DD.put { d with left := d.left - 1 - 1, jr := [] } 0 (full last)) hdd h2
          have g4 : DGood { DD.put { d with left := d.left - 1 - 1, jr := [] } 0 (full last) with dead := true } := ⟨g3.some, g3.few, g3.sec, g3.ent, g3.inn, g3.lo, g3.hi⟩
          have hone := crash_one { DD.put { d with left := d.left - 1 - 1, jr := [] } 0 (full last) with dead := true } (d.img.getD 0 []) rfl (by show 0 < (d.img.set 0 (full last)).length; rw [hlen]; exact hn) picks
          have hk := fun i (hi : 0 < i) => crash_keeps _ g4 picks i (pastL_off _ i (fun e he => by
            have he2 : e ∈ [(0, d.img.getD 0 [])] := he
            simp only [List.mem_singleton] at he2
            subst he2; simp only; omega))
          refine ⟨_, _, _, f1, g1', Nat.zero_le _, f2, g3, by show (1 : Nat) ≤ _; omega, flush_bad s3, g4, by show (1 : Nat) ≤ _; omega, DGood.crash g4 picks, hclen _ hlen, ?_, fun h3 => by omega, fun _ i hi0 hi => (hk i hi0).trans (hrest i hi0 hi)⟩
          rcases hone with e | e
          · exact .inl (e.trans h.zero)
          · exact .inr (e.trans hzero)
        · have s3 := step_ok (d := DD.put { d with left := d.left - 1 - 1, jr := [] } 0 (full last)) hdd (show 0 < d.left - 1 - 1 by omega)
          have g4 := g3.step
          rw [s3] at g4
          have g5 := g4.flushed
          have hk := fun i => crash_keeps _ g5 picks i rfl
          refine ⟨_, _, _, f1, g1', Nat.zero_le _, f2, g3, by show (1 : Nat) ≤ _; omega, flush_ok s3, g5, Nat.zero_le _, DGood.crash g5 picks, hclen _ hlen, .inr ((hk 0).trans hzero), fun _ => (hk 0).trans hzero, fun _ i hi0 hi => (hk i).trans (hrest i hi0 hi)⟩
  · exact hdead d h.dg hdd rfl rfl (by omega) (flush_bad (step_dead hdd))
theorem read_at (d : DD) (k : Nat) (hk : k < d.img.length) : d.read (k : Int) = (d.img.getD k [], 0) := by
  have hh : d.has (k : Int) = 0 := by unfold DD.has; rw [if_neg (by omega)]
  unfold DD.read
  rw [hh, if_pos rfl, Int.toNat_natCast]
/-- The law's own disk, and a block of the law's beside it. -/
def MineB (w u : World) (p : Nat) (d : DD) (b : Nat) (T : TypeId) (cs : List Value) : Prop := ∃ F, DiskAt u p d F ∧ (∀ k, F k → w.heap.size ≤ k) ∧ GB w u ∧ ¬ F b ∧ w.heap.size ≤ b ∧ Blk u b T cs
theorem MineB.step {w u v : World} {p b : Nat} {T : TypeId} {d' : DD} {cs : List Value} {F : Nat → Prop} (hF : ∀ k, F k → w.heap.size ≤ k) (hg : GB w u) (hb : ¬ F b) (hwb : w.heap.size ≤ b) (hB : Blk u b T cs) (hm : Moved p d' F u v) : MineB w v p d' b T cs := by
  obtain ⟨F', h1, h2, h3⟩ := hm
  have hs := Below.size hg
  have hbl := hB.lt
  refine ⟨F', h1, fun k hk => ?_, Fr.gbw hg hF h2, fun hf => ?_, hwb, h2.blk hB hb⟩
  · rcases h3 k hk with h | h
    · exact hF k h
    · omega
  · rcases h3 b hf with h | h
    · exact hb h
    · omega
theorem MineB.gb {w u v : World} {p b : Nat} {T : TypeId} {d : DD} {cs : List Value} (h : MineB w u p d b T cs) (g : GB u v) : MineB w v p d b T cs := by
  obtain ⟨F, h1, h2, h3, h4, h5, h6⟩ := h
  exact ⟨F, h1.gb g, h2, GB.trans _ _ _ h3 g, h4, h5, h6.gb g⟩
theorem info5' : (Try.prog.info? 5).map (fun i => (i.zero, i.size, i.bytes)) = some (some (.int .u8 0), 1, 1) := by kernel_rfl
theorem elem5 : Elem 22 5 1 1 (.int .u8 0) := by
  obtain ⟨i, hi, hz0, hz1, hz2⟩ := info_parts info5'
  exact ⟨Try.underlying22, ⟨i, hi, hz0, hz1, hz2⟩, rfl, by decide, by decide⟩
set_option maxHeartbeats 8000000 in
set_option maxRecDepth 100000 in
theorem commits_walk (n : Int) (sa : Option Addr) (xs : List SArg) (sc : Nat) (c : UInt8) (fuse : Int) (pa : Option Addr) (ps : List Int) (pc : Nat) (w : World) (h : StepsAt w sa xs) (hf1 : fuse ≤ 9223372036854775807) (hrp : Rd w pa (ps.map bI)) :
    Calls Try.prog 15 #[.int .i64 n, .slice sa xs.length sc, .int .u8 (n8 c), .int .i64 fuse, .slice pa ps.length pc] w fun e w' => e = .returned (.bool true) ∧ GB w w' := by
  have hmu := fun u (hu : GB w u) => much_any sa xs sc 30 u (h.gb hu) (by decide)
  have HMU := Lib.hid hmu
  have HP : Hid (∀ b, (b = false → xs.length ≤ 30 ∧ ∀ s ∈ xs, s.x.picks.length ≤ 1000) → b = false → xs.length ≤ 30 ∧ Hid (∀ s ∈ xs, s.x.picks.length ≤ 1000)) := Lib.hid (fun b hb h => ⟨(hb h).1, Lib.hid (hb h).2⟩)
  clear hmu
  go_enter Try.func15, Try.ntmps15
  go_wp2_with fail
  refine (known3_any _).mono ?_
  rintro e w0 ⟨rfl, hg0⟩
  go_upto_region 3 with fail
  go_cut [42] (fun s wx => ∃ bb, s = .bool bb ∧ w0 = wx ∧ (bb = false → 2 ≤ n ∧ n ≤ 12 ∧ xs.length ≤ 30 ∧ Hid (∀ s ∈ xs, s.x.picks.length ≤ 1000) ∧ 0 ≤ fuse ∧ ps.length ≤ 1000))
  case first =>
    by_cases hn1 : n < 2
    · go_wp2_with fail
      go_meet
      case rel => exact ⟨true, rfl, rfl, fun h => by cases h⟩
    · by_cases hn2 : 12 < n
      · go_wp2_with fail
        go_meet
        case rel => exact ⟨true, rfl, rfl, fun h => by cases h⟩
      · go_wp2_with fail
        refine (HMU.out _ hg0).mono ?_
        rintro e w1 ⟨b, rfl, rfl, hb⟩
        replace hb := HP.out _ hb
        cases b
        · obtain ⟨hl30, hp⟩ := hb rfl
          by_cases hf0 : fuse < 0
          · go_wp2_with fail
            go_meet
            case rel => exact ⟨true, rfl, rfl, fun h => by cases h⟩
          · by_cases hps : 1000 < ps.length
            · have hq : (decide (fuse < 0) || decide (1000 < (ps.length : Int))) = true := by rw [Bool.or_eq_true, decide_eq_true_iff, decide_eq_true_iff]; omega
              go_wp2_with fail
              go_meet
              case rel => exact ⟨true, by first | rfl | rw [hq], rfl, fun h => by cases h⟩
            · have hq : (decide (fuse < 0) || decide (1000 < (ps.length : Int))) = false := by rw [Bool.or_eq_false_iff, decide_eq_false_iff_not, decide_eq_false_iff_not]; omega
              go_wp2_with fail
              go_meet
              case rel => exact ⟨false, by first | rfl | rw [hq], rfl, fun _ => ⟨by omega, by omega, hl30, hp, by omega, by omega⟩⟩
        · go_wp2_with fail
          go_meet
          case rel => exact ⟨true, rfl, rfl, fun h => by cases h⟩
  case rest =>
    obtain ⟨bb, rfl, rfl, hbb⟩ := hcut
    cases bb
    case true =>
      go_wp2_with fail
      go_ret
      exact ⟨rfl, hg0⟩
    obtain ⟨hn1, hn2, hl30, HP, hf0, hps⟩ := hbb rfl
    obtain ⟨m, rfl⟩ : ∃ m : Nat, n = (m : Int) := ⟨n.toNat, by omega⟩
    have hnew := new_any m w0 (by omega) (by omega)
    have I0 := Lib.hid (CInv.new m fuse (by omega) (by omega) hf0 hf1)
    have hdg := Lib.hid (DD.new_good m (by omega) (by omega))
    clear hbb HMU
    go_wp2_with fail
    refine hnew.mono ?_
    rintro e w1 ⟨p, F, rfl, hd, hb1, hF⟩
    have M : Mine w0 w1 p (DD.new m) := ⟨F, hd, hF, hb1⟩
    clear hd hb1 hF hnew F
    go_wp2_with fail
    refine (num_any 0 _).mono ?_
    rintro e v ⟨rfl, rfl⟩
    go_wp2_with (first | with_reducible refine halt_make 22 ?_)
    refine L.make elem5 (.tmp 55) (.tmp 55) rfl (by rfl) (by rfl) (by omega) (by rfl) ?_
    intro w2 hB hG2
    simp only [Act.put, List.setIfInBounds_toArray, List.set_cons_zero, List.set_cons_succ]
    have hB2 : Blk w2 w1.heap.size 5 ((List.replicate m (0 : UInt8)).map b8) := by
      change Blk w2 w1.heap.size 5 (madeCells (List.replicate 1 (Value.int .u8 0)).toArray (m * 1)).toList at hB
      rw [made_rep _ 1 _ (by decide), Nat.mul_one] at hB
      rw [List.map_replicate]; exact hB
    have MB : MineB w0 w2 p (DD.new m) w1.heap.size 5 ((List.replicate m (0 : UInt8)).map b8) := by
      obtain ⟨F, hd, hF, hg⟩ := M
      exact ⟨F, hd.gb hG2, hF, GB.trans _ _ _ hg hG2, fun hf => by have := hd.bnd _ hf; omega, Below.size hg, hB2⟩
    clear hB hB2 hG2 M
    obtain ⟨F, hd, hF, hg, hnb, hwb, hB⟩ := MB
    have hfu := fuse_any p (DD.new m) F fuse w2 hd hdg.out.some
    have hfe : (DD.new m).fuse fuse = (0, { DD.new m with left := fuse }) := by unfold DD.fuse; rw [if_neg (by omega)]
    rw [hfe] at hfu
    generalize ({ DD.new m with left := fuse } : DD) = d0 at *
    clear hfe
    go_wp2_with fail
    refine hfu.mono ?_
    rintro e w3 ⟨rfl, hm⟩
    have MB := MineB.step hF hg hnb hwb hB hm
    have I := I0
    clear hfu hm hF hg hnb hB hd hdg F
    go_wp2_with fail
    go_loopw [14, 15] (fun x y wr => ∃ (steps i : Nat) (want : List UInt8) (d : DD), x = .int .i64 steps ∧ y = .int .i64 i ∧ i ≤ xs.length ∧ steps ≤ i ∧ Hid (CInv m fuse steps want d) ∧ MineB w0 wr p d w1.heap.size 5 (want.map b8)) (fun _ y _ => xs.length - (intOf y).toNat)
    case atStart => exact ⟨0, 0, _, _, rfl, rfl, by omega, by omega, I, MB⟩
    case round =>
      obtain ⟨steps, i, want, d, rfl, rfl, hil, hsi, I, MB⟩ := hrel
      obtain ⟨F, hd, hF, hg, hnb, -, hB⟩ := MB
      have hgw := GB.trans _ _ _ hg0 hg
      have hjr := I.out.jr
      by_cases hlt : i < xs.length
      · obtain ⟨g, o, rfl, c0, c1, c2, c3⟩ := h.at i hlt
        have hmem := List.getElem_mem hlt
        obtain ⟨hpr, hpm, hpn⟩ := h.picks _ hmem
        have hpl := HP.out _ hmem
        generalize xs[i] = s at *
        obtain ⟨⟨kind, N, fill, picks⟩, qa, qc⟩ := s
        simp only at c0 c1 c2 c3 hpr hpm hpn hpl
        have c2w := c2
        replace c0 := hgw.cell c0
        replace c1 := hgw.cell c1
        replace c2 := hgw.cell c2
        replace c3 := hgw.cell c3
        by_cases hk : kind = 1 ∧ 0 < N ∧ N < (m : Int)
        · obtain ⟨rfl, hN0, hNm⟩ := hk
          obtain ⟨k, rfl⟩ : ∃ k : Nat, N = (k : Int) := ⟨N.toNat, by omega⟩
          have hddo := ddo_any p d F ⟨1, k, fill, picks⟩ qa qc wr hd I.out.dg (by omega) (hgw.rd hpr) hpl
          unfold DDoPost at hddo
          rw [show d.do ⟨1, k, fill, picks⟩ = d.write k (full fill) by simp [DD.do]] at hddo
          have hI := I.out.write k fill (by omega) (by omega)
          have hwl := I.out.wlen
          generalize d.write (k : Int) (full fill) = res at *
          obtain ⟨code, d'⟩ := res
          simp only at hddo hI
          have HI := Lib.hid hI
          clear hpr hpm hmem hI
          go_wp2_with fail
          refine hddo.mono ?_
          rintro e w4 ⟨rfl, hm⟩
          have MB4 := MineB.step hF hg hnb hwb hB hm
          clear hddo hm hF hg hnb hB hd c0 c1 c2 c3
          obtain ⟨F', hd', hF', hg', hnb', -, hB'⟩ := MB4
          have c2' := (GB.trans _ _ _ hg0 hg').cell c2w
          obtain ⟨x0, cw⟩ := hB'.cell8 k (by omega)
          have fz := hB'.frozen k
          go_wp2_with fail
          have f5 := (Fr.refl (· = w1.heap.size) w4).setCell w1.heap.size k (.int .u8 (n8 fill)) (.inl rfl)
          go_roundw
          case rel => exact ⟨steps + 1, i + 1, want.set k fill, d', by go_num, by go_num, by omega, by omega, HI, F', hd'.fr f5 (fun j hj e => hnb' (e ▸ hj)), hF', Fr.gbw hg' (fun j e => by omega) f5, hnb', hwb, hB'.set8 k fill⟩
          case measure => simp [intOf]; omega
        · clear hpr hpm hmem hpl
          by_cases k1 : kind = 1
          · by_cases k2 : 0 < N
            · have k3 : (m : Int) ≤ N := by
                by_cases e : N < (m : Int)
                · exact absurd ⟨k1, k2, e⟩ hk
                · omega
              subst k1
              clear hk
              go_wp2_with fail
              go_roundw
              case rel => exact ⟨steps, i + 1, want, d, rfl, by go_num, by omega, by omega, I, F, hd, hF, hg, hnb, hwb, hB⟩
              case measure => simp [intOf]; omega
            · subst k1
              clear hk
              go_wp2_with fail
              go_roundw
              case rel => exact ⟨steps, i + 1, want, d, rfl, by go_num, by omega, by omega, I, F, hd, hF, hg, hnb, hwb, hB⟩
              case measure => simp [intOf]; omega
          · have hq : (kind == 1) = false := by simpa using k1
            clear hk k1
            go_wp2_with fail
            go_roundw
            case rel => exact ⟨steps, i + 1, want, d, rfl, by go_num, by omega, by omega, I, F, hd, hF, hg, hnb, hwb, hB⟩
            case measure => simp [intOf]; omega
      · have hwl := I.out.wlen
        have hend := I.out.out (by omega) c ps
        obtain ⟨d1, d2, d3, e1, g1, j1, e2, g2, j2, e3, g3, j3, ho⟩ := hend
        have hst : steps ≤ 30 := by omega
        clear MB I0 h HP
        have hfl := flush_any p d F wr hd I.out.dg
        rw [e1] at hfl
        have E2 := Lib.hid e2
        have E3 := Lib.hid e3
        have HO := Lib.hid ho
        generalize d.flush.1 = q1 at *
        clear e1 e2 e3 ho
        go_wp2_with fail
        refine hfl.mono ?_
        rintro e w4 ⟨rfl, hm⟩
        have MB := MineB.step hF hg hnb hwb hB hm
        clear hfl hm hF hg hnb hB hd F
        go_wp2_with fail
        refine (full_any c _).mono ?_
        rintro e w5 ⟨rfl, hb5⟩
        obtain ⟨F, hd, hF, hg, hnb, -, hB⟩ := MB.gb hb5
        clear MB hb5
        have hwr := write_any p d1 F 0 (full c) w5 hd g1 (full_length c) (by omega)
        rw [E2.out] at hwr
        generalize (d1.write 0 (full c)).1 = q2 at *
        have HF : Hid (∀ (c : UInt8) (n : Int) (u : World), n8 c = n → Calls Try.prog 83 #[.int .u8 n] u fun e w' => e = .returned (arr (full c)) ∧ GB u w') := Lib.hid (fun c n u h => by rw [← h]; exact full_any c u)
        go_wp2_with fail
        refine hwr.mono ?_
        rintro e w6 ⟨rfl, hm⟩
        have MB := MineB.step hF hg hnb hwb hB hm
        clear hwr hm hF hg hnb hB hd F
        go_wp2_with fail
        obtain ⟨F, hd, hF, hg, hnb, -, hB⟩ := MB
        have hfl := flush_any p d2 F _ hd g2
        rw [E3.out] at hfl
        generalize d2.flush.1 = q3 at *
        refine hfl.mono ?_
        rintro e w7 ⟨rfl, hm⟩
        have MB := MineB.step hF hg hnb hwb hB hm
        clear hfl hm hF hg hnb hB hd F
        go_wp2_with fail
        obtain ⟨F, hd, hF, hg, hnb, -, hB⟩ := MB
        have hcr := crash_any p d3 F pa ps pc _ hd g3 (by omega) ((GB.trans _ _ _ hg0 hg).rd hrp)
        generalize d3.crash ps = d4 at *
        refine hcr.mono ?_
        rintro e w8 ⟨rfl, hm⟩
        have MB := MineB.step hF hg hnb hwb hB hm
        clear hcr hm hF hg hnb hB hd F
        go_wp2_with fail
        obtain ⟨F, hd, hF, hg, hnb, -, hB⟩ := MB
        have hx64 : (d4.img.getD 0 []).length = 64 := by
          have h0 : 0 < d4.img.length := HO.out.dg.some
          have := HO.out.dg.sec.at 0 h0
          rw [show d4.img.getD 0 [] = d4.img[0] by simp [List.getD, h0]]
          exact this
        have hsome := HO.out.some
        have hdone := HO.out.done
        have hrest := HO.out.rest
        have hrd := read_any p d4 F 0 _ hd HO.out.dg
        have hr0 : d4.read 0 = (d4.img.getD 0 [], 0) := by
          have h0 : 0 < d4.img.length := HO.out.dg.some
          exact read_at d4 0 h0
        rw [hr0] at hrd
        generalize d4.img.getD 0 [] = Z at *
        have HX := Lib.hid hx64
        have HSOME := Lib.hid hsome
        have HDONE := Lib.hid hdone
        have HREST := Lib.hid hrest
        have hz64 := Lib.hid (zeros_length 64)
        clear hx64 hsome hdone hrest hr0
        refine hrd.mono ?_
        rintro e w9 ⟨rfl, hb9⟩
        clear hrd
        simp only
        go_wp2_with (first | with_reducible refine halt_alloc 59 ?_ | with_reducible refine halt_store 59 ?_)
        refine L.alloc rfl zero59 (by rfl) ?_
        intro w10 hA10 hG10
        simp only [Act.put, List.setIfInBounds_toArray, List.set_cons_zero, List.set_cons_succ]
        go_wp2_with (first | with_reducible refine halt_alloc 59 ?_ | with_reducible refine halt_store 59 ?_)
        refine L.store rfl info59 (by rfl) (by rfl) hA10 (by rw [List.length_map]; exact hz64.out) HX.out (by rfl) ?_
        intro w11 hA11 hG11
        simp only [Act.put]
        have f11 : Fr (· = w9.heap.size) w9 w11 := (Fr.of_gb hG10).trans (Fr.of_grown hG11 (fun j hj => by cases hj; rfl))
        have hd9 := hd.gb hb9
        have hd11 : DiskAt w11 p d4 F := hd9.fr f11 (fun j hj e => by have := hd9.bnd j hj; omega)
        have hB9 := hB.gb hb9
        have hB11 : Blk w11 w1.heap.size 5 (want.map b8) := f11.blk hB9 (fun e => by have := hB9.lt; omega)
        have hg9 := GB.trans _ _ _ hg hb9
        have hg11 : GB w0 w11 := Fr.gbw hg9 (fun j e => by have := Below.size hg9; omega) f11
        clear f11 hd9 hB9 hg9 hG10 hG11 hA10 hB hg hd hb9 hnb hF
        generalize w9.heap.size = b17 at *
        go_upto_region 24 with fail
        have hA11d := Blk.gb hA11 (GB.drew w11)
        go_cut [138] (fun s wx => s = .bool false ∧ GB w11 wx)
        case first =>
          have HFA : Hid (∀ u, Calls Try.prog 83 #[.int .u8 0] u fun e w' => e = .returned (arr (full 0)) ∧ GB u w') := Lib.hid (fun u => HF.out 0 0 u rfl)
          have HFB : Hid (∀ u, Calls Try.prog 83 #[.int .u8 (n8 c)] u fun e w' => e = .returned (arr (full c)) ∧ GB u w') := Lib.hid (fun u => full_any c u)
          have HA64 := Lib.hid (full_length 0)
          have HB64 := Lib.hid (full_length c)
          clear HREST HO HF
          generalize full 0 = A at *
          generalize full c = B at *
          by_cases hX : Z = A
          · by_cases hG : (steps : Int) + 3 ≤ fuse
            · have hqa : (!(Z == A)) = false := by simp [hX]
              have hqb : (!(Z == B)) = false := by simp [HDONE.out hG]
              clear hX HSOME HDONE
              have hqg : decide ((steps : Int) + 3 ≤ fuse) = true := by rw [decide_eq_true_iff]; exact hG
              have hu0 := GB.refl w11.drew
              refine region_gb [(0,0),(1,1),(2,0),(3,0),(4,0),(5,0),(6,1),(7,0),(8,0),(9,0),(10,0),(11,0),(12,0),(13,0),(14,0),(15,0),(16,0),(17,1),(18,0),(19,0),(20,0)] [] (by kernel_rfl) ?_
              refine S0 (by rfl) (by rfl) (fun u hu => X.load rfl (by rfl) Try.underlying59 info59 (hA11d.gb (GB.trans _ _ _ hu0 hu)) HX.out) ?_
              simp only [Act.put, List.setIfInBounds_toArray, List.set_cons_zero, List.set_cons_succ]
              refine S1 (by rfl) (by rfl) (fun K hK => ?_)
              go_wp2_with fail
              refine (HFA.out _).mono ?_
              rintro e y ⟨rfl, hby⟩
              refine hK _ _ hby ?_
              clear hK K
              replace hu0 := GB.trans _ _ _ hu0 hby
              clear hby
              refine S0 (by rfl) (by rfl) (fun u hu => X.neq rfl (by rfl) (by rfl) Try.underlying59 guard59 HX.out HA64.out) ?_
              simp only [Act.put, List.setIfInBounds_toArray, List.set_cons_zero, List.set_cons_succ]
              rw [hqa]
              iterate 1 (refine S0w (v := ?_) (by rfl) (by rfl) (fun u hu N hN => ?_) ?_; rotate_left; (go_simp; exact hN); simp only [Act.put, List.setIfInBounds_toArray, List.set_cons_zero, List.set_cons_succ])
              iterate 2 (refine S0n (by rfl) (by rfl) ?_; simp only [Act.put, List.setIfInBounds_toArray, List.set_cons_zero, List.set_cons_succ])
              (refine S1n GB.refl (by rfl) (by rfl) ?_; simp only [Act.put, List.setIfInBounds_toArray, List.set_cons_zero, List.set_cons_succ])
              iterate 1 (refine S0n (by rfl) (by rfl) ?_; simp only [Act.put, List.setIfInBounds_toArray, List.set_cons_zero, List.set_cons_succ])
              iterate 2 (refine S0w (v := ?_) (by rfl) (by rfl) (fun u hu N hN => ?_) ?_; rotate_left; (go_simp; exact hN); simp only [Act.put, List.setIfInBounds_toArray, List.set_cons_zero, List.set_cons_succ])
              iterate 4 (refine S0w (v := ?_) (by rfl) (by rfl) (fun u hu N hN => ?_) ?_; rotate_left; (go_simp; exact hN); simp only [Act.put, List.setIfInBounds_toArray, List.set_cons_zero, List.set_cons_succ])
              rw [show IntKind.i64.wrap ((steps : Int) + 3) = (steps : Int) + 3 from wrapi _ (by omega) (by omega), hqg]
              iterate 1 (refine S0w (v := ?_) (by rfl) (by rfl) (fun u hu N hN => ?_) ?_; rotate_left; (go_simp; exact hN); simp only [Act.put, List.setIfInBounds_toArray, List.set_cons_zero, List.set_cons_succ])
              refine S0 (by rfl) (by rfl) (fun u hu => X.load rfl (by rfl) Try.underlying59 info59 (hA11d.gb (GB.trans _ _ _ hu0 hu)) HX.out) ?_
              simp only [Act.put, List.setIfInBounds_toArray, List.set_cons_zero, List.set_cons_succ]
              iterate 1 (refine S0w (v := ?_) (by rfl) (by rfl) (fun u hu N hN => ?_) ?_; rotate_left; (go_simp; exact hN); simp only [Act.put, List.setIfInBounds_toArray, List.set_cons_zero, List.set_cons_succ])
              refine S1 (by rfl) (by rfl) (fun K hK => ?_)
              go_wp2_with fail
              refine (HFB.out _).mono ?_
              rintro e y ⟨rfl, hby⟩
              refine hK _ _ hby ?_
              clear hK K
              replace hu0 := GB.trans _ _ _ hu0 hby
              clear hby
              refine S0 (by rfl) (by rfl) (fun u hu => X.neq rfl (by rfl) (by rfl) Try.underlying59 guard59 HX.out HB64.out) ?_
              simp only [Act.put, List.setIfInBounds_toArray, List.set_cons_zero, List.set_cons_succ]
              rw [hqb]
              iterate 2 (refine S0w (v := ?_) (by rfl) (by rfl) (fun u hu N hN => ?_) ?_; rotate_left; (go_simp; exact hN); simp only [Act.put, List.setIfInBounds_toArray, List.set_cons_zero, List.set_cons_succ])
              refine S.done ?_
              go_wp2_with fail
              go_meet
              case rel => exact ⟨rfl, GB.trans _ _ _ (GB.drew w11) hu0⟩
            · have hqa : (!(Z == A)) = false := by simp [hX]
              clear hX HSOME HDONE
              have hqg : decide ((steps : Int) + 3 ≤ fuse) = false := by rw [decide_eq_false_iff_not]; exact hG
              have hu0 := GB.refl w11.drew
              refine region_gb [(0,0),(1,1),(2,0),(3,0),(4,0),(5,0),(6,1),(7,0),(8,0),(9,0),(10,0),(11,0),(12,0),(13,0),(14,0),(15,0),(16,0),(17,1),(18,0),(19,0),(20,0)] [] (by kernel_rfl) ?_
              refine S0 (by rfl) (by rfl) (fun u hu => X.load rfl (by rfl) Try.underlying59 info59 (hA11d.gb (GB.trans _ _ _ hu0 hu)) HX.out) ?_
              simp only [Act.put, List.setIfInBounds_toArray, List.set_cons_zero, List.set_cons_succ]
              refine S1 (by rfl) (by rfl) (fun K hK => ?_)
              go_wp2_with fail
              refine (HFA.out _).mono ?_
              rintro e y ⟨rfl, hby⟩
              refine hK _ _ hby ?_
              clear hK K
              replace hu0 := GB.trans _ _ _ hu0 hby
              clear hby
              refine S0 (by rfl) (by rfl) (fun u hu => X.neq rfl (by rfl) (by rfl) Try.underlying59 guard59 HX.out HA64.out) ?_
              simp only [Act.put, List.setIfInBounds_toArray, List.set_cons_zero, List.set_cons_succ]
              rw [hqa]
              iterate 1 (refine S0w (v := ?_) (by rfl) (by rfl) (fun u hu N hN => ?_) ?_; rotate_left; (go_simp; exact hN); simp only [Act.put, List.setIfInBounds_toArray, List.set_cons_zero, List.set_cons_succ])
              iterate 2 (refine S0n (by rfl) (by rfl) ?_; simp only [Act.put, List.setIfInBounds_toArray, List.set_cons_zero, List.set_cons_succ])
              (refine S1n GB.refl (by rfl) (by rfl) ?_; simp only [Act.put, List.setIfInBounds_toArray, List.set_cons_zero, List.set_cons_succ])
              iterate 1 (refine S0n (by rfl) (by rfl) ?_; simp only [Act.put, List.setIfInBounds_toArray, List.set_cons_zero, List.set_cons_succ])
              iterate 2 (refine S0w (v := ?_) (by rfl) (by rfl) (fun u hu N hN => ?_) ?_; rotate_left; (go_simp; exact hN); simp only [Act.put, List.setIfInBounds_toArray, List.set_cons_zero, List.set_cons_succ])
              iterate 4 (refine S0w (v := ?_) (by rfl) (by rfl) (fun u hu N hN => ?_) ?_; rotate_left; (go_simp; exact hN); simp only [Act.put, List.setIfInBounds_toArray, List.set_cons_zero, List.set_cons_succ])
              rw [show IntKind.i64.wrap ((steps : Int) + 3) = (steps : Int) + 3 from wrapi _ (by omega) (by omega), hqg]
              iterate 1 (refine S0w (v := ?_) (by rfl) (by rfl) (fun u hu N hN => ?_) ?_; rotate_left; (go_simp; exact hN); simp only [Act.put, List.setIfInBounds_toArray, List.set_cons_zero, List.set_cons_succ])
              iterate 2 (refine S0n (by rfl) (by rfl) ?_; simp only [Act.put, List.setIfInBounds_toArray, List.set_cons_zero, List.set_cons_succ])
              (refine S1n GB.refl (by rfl) (by rfl) ?_; simp only [Act.put, List.setIfInBounds_toArray, List.set_cons_zero, List.set_cons_succ])
              iterate 1 (refine S0n (by rfl) (by rfl) ?_; simp only [Act.put, List.setIfInBounds_toArray, List.set_cons_zero, List.set_cons_succ])
              iterate 2 (refine S0w (v := ?_) (by rfl) (by rfl) (fun u hu N hN => ?_) ?_; rotate_left; (go_simp; exact hN); simp only [Act.put, List.setIfInBounds_toArray, List.set_cons_zero, List.set_cons_succ])
              refine S.done ?_
              go_wp2_with fail
              go_meet
              case rel => exact ⟨rfl, GB.trans _ _ _ (GB.drew w11) hu0⟩
          · by_cases hG : (steps : Int) + 3 ≤ fuse
            · have hqa : (!(Z == A)) = true := by simp [hX]
              have hqb : (!(Z == B)) = false := by rcases HSOME.out with h | h; exact absurd h hX; simp [h]
              clear hX HSOME HDONE
              have hqg : decide ((steps : Int) + 3 ≤ fuse) = true := by rw [decide_eq_true_iff]; exact hG
              have hu0 := GB.refl w11.drew
              refine region_gb [(0,0),(1,1),(2,0),(3,0),(4,0),(5,0),(6,1),(7,0),(8,0),(9,0),(10,0),(11,0),(12,0),(13,0),(14,0),(15,0),(16,0),(17,1),(18,0),(19,0),(20,0)] [] (by kernel_rfl) ?_
              refine S0 (by rfl) (by rfl) (fun u hu => X.load rfl (by rfl) Try.underlying59 info59 (hA11d.gb (GB.trans _ _ _ hu0 hu)) HX.out) ?_
              simp only [Act.put, List.setIfInBounds_toArray, List.set_cons_zero, List.set_cons_succ]
              refine S1 (by rfl) (by rfl) (fun K hK => ?_)
              go_wp2_with fail
              refine (HFA.out _).mono ?_
              rintro e y ⟨rfl, hby⟩
              refine hK _ _ hby ?_
              clear hK K
              replace hu0 := GB.trans _ _ _ hu0 hby
              clear hby
              refine S0 (by rfl) (by rfl) (fun u hu => X.neq rfl (by rfl) (by rfl) Try.underlying59 guard59 HX.out HA64.out) ?_
              simp only [Act.put, List.setIfInBounds_toArray, List.set_cons_zero, List.set_cons_succ]
              rw [hqa]
              iterate 1 (refine S0w (v := ?_) (by rfl) (by rfl) (fun u hu N hN => ?_) ?_; rotate_left; (go_simp; exact hN); simp only [Act.put, List.setIfInBounds_toArray, List.set_cons_zero, List.set_cons_succ])
              refine S0 (by rfl) (by rfl) (fun u hu => X.load rfl (by rfl) Try.underlying59 info59 (hA11d.gb (GB.trans _ _ _ hu0 hu)) HX.out) ?_
              simp only [Act.put, List.setIfInBounds_toArray, List.set_cons_zero, List.set_cons_succ]
              iterate 1 (refine S0w (v := ?_) (by rfl) (by rfl) (fun u hu N hN => ?_) ?_; rotate_left; (go_simp; exact hN); simp only [Act.put, List.setIfInBounds_toArray, List.set_cons_zero, List.set_cons_succ])
              refine S1 (by rfl) (by rfl) (fun K hK => ?_)
              go_wp2_with fail
              refine (HFB.out _).mono ?_
              rintro e y ⟨rfl, hby⟩
              refine hK _ _ hby ?_
              clear hK K
              replace hu0 := GB.trans _ _ _ hu0 hby
              clear hby
              refine S0 (by rfl) (by rfl) (fun u hu => X.neq rfl (by rfl) (by rfl) Try.underlying59 guard59 HX.out HB64.out) ?_
              simp only [Act.put, List.setIfInBounds_toArray, List.set_cons_zero, List.set_cons_succ]
              rw [hqb]
              iterate 2 (refine S0w (v := ?_) (by rfl) (by rfl) (fun u hu N hN => ?_) ?_; rotate_left; (go_simp; exact hN); simp only [Act.put, List.setIfInBounds_toArray, List.set_cons_zero, List.set_cons_succ])
              iterate 4 (refine S0w (v := ?_) (by rfl) (by rfl) (fun u hu N hN => ?_) ?_; rotate_left; (go_simp; exact hN); simp only [Act.put, List.setIfInBounds_toArray, List.set_cons_zero, List.set_cons_succ])
              rw [show IntKind.i64.wrap ((steps : Int) + 3) = (steps : Int) + 3 from wrapi _ (by omega) (by omega), hqg]
              iterate 1 (refine S0w (v := ?_) (by rfl) (by rfl) (fun u hu N hN => ?_) ?_; rotate_left; (go_simp; exact hN); simp only [Act.put, List.setIfInBounds_toArray, List.set_cons_zero, List.set_cons_succ])
              refine S0 (by rfl) (by rfl) (fun u hu => X.load rfl (by rfl) Try.underlying59 info59 (hA11d.gb (GB.trans _ _ _ hu0 hu)) HX.out) ?_
              simp only [Act.put, List.setIfInBounds_toArray, List.set_cons_zero, List.set_cons_succ]
              iterate 1 (refine S0w (v := ?_) (by rfl) (by rfl) (fun u hu N hN => ?_) ?_; rotate_left; (go_simp; exact hN); simp only [Act.put, List.setIfInBounds_toArray, List.set_cons_zero, List.set_cons_succ])
              refine S1 (by rfl) (by rfl) (fun K hK => ?_)
              go_wp2_with fail
              refine (HFB.out _).mono ?_
              rintro e y ⟨rfl, hby⟩
              refine hK _ _ hby ?_
              clear hK K
              replace hu0 := GB.trans _ _ _ hu0 hby
              clear hby
              refine S0 (by rfl) (by rfl) (fun u hu => X.neq rfl (by rfl) (by rfl) Try.underlying59 guard59 HX.out HB64.out) ?_
              simp only [Act.put, List.setIfInBounds_toArray, List.set_cons_zero, List.set_cons_succ]
              rw [hqb]
              iterate 2 (refine S0w (v := ?_) (by rfl) (by rfl) (fun u hu N hN => ?_) ?_; rotate_left; (go_simp; exact hN); simp only [Act.put, List.setIfInBounds_toArray, List.set_cons_zero, List.set_cons_succ])
              refine S.done ?_
              go_wp2_with fail
              go_meet
              case rel => exact ⟨rfl, GB.trans _ _ _ (GB.drew w11) hu0⟩
            · have hqa : (!(Z == A)) = true := by simp [hX]
              have hqb : (!(Z == B)) = false := by rcases HSOME.out with h | h; exact absurd h hX; simp [h]
              clear hX HSOME HDONE
              have hqg : decide ((steps : Int) + 3 ≤ fuse) = false := by rw [decide_eq_false_iff_not]; exact hG
              have hu0 := GB.refl w11.drew
              refine region_gb [(0,0),(1,1),(2,0),(3,0),(4,0),(5,0),(6,1),(7,0),(8,0),(9,0),(10,0),(11,0),(12,0),(13,0),(14,0),(15,0),(16,0),(17,1),(18,0),(19,0),(20,0)] [] (by kernel_rfl) ?_
              refine S0 (by rfl) (by rfl) (fun u hu => X.load rfl (by rfl) Try.underlying59 info59 (hA11d.gb (GB.trans _ _ _ hu0 hu)) HX.out) ?_
              simp only [Act.put, List.setIfInBounds_toArray, List.set_cons_zero, List.set_cons_succ]
              refine S1 (by rfl) (by rfl) (fun K hK => ?_)
              go_wp2_with fail
              refine (HFA.out _).mono ?_
              rintro e y ⟨rfl, hby⟩
              refine hK _ _ hby ?_
              clear hK K
              replace hu0 := GB.trans _ _ _ hu0 hby
              clear hby
              refine S0 (by rfl) (by rfl) (fun u hu => X.neq rfl (by rfl) (by rfl) Try.underlying59 guard59 HX.out HA64.out) ?_
              simp only [Act.put, List.setIfInBounds_toArray, List.set_cons_zero, List.set_cons_succ]
              rw [hqa]
              iterate 1 (refine S0w (v := ?_) (by rfl) (by rfl) (fun u hu N hN => ?_) ?_; rotate_left; (go_simp; exact hN); simp only [Act.put, List.setIfInBounds_toArray, List.set_cons_zero, List.set_cons_succ])
              refine S0 (by rfl) (by rfl) (fun u hu => X.load rfl (by rfl) Try.underlying59 info59 (hA11d.gb (GB.trans _ _ _ hu0 hu)) HX.out) ?_
              simp only [Act.put, List.setIfInBounds_toArray, List.set_cons_zero, List.set_cons_succ]
              iterate 1 (refine S0w (v := ?_) (by rfl) (by rfl) (fun u hu N hN => ?_) ?_; rotate_left; (go_simp; exact hN); simp only [Act.put, List.setIfInBounds_toArray, List.set_cons_zero, List.set_cons_succ])
              refine S1 (by rfl) (by rfl) (fun K hK => ?_)
              go_wp2_with fail
              refine (HFB.out _).mono ?_
              rintro e y ⟨rfl, hby⟩
              refine hK _ _ hby ?_
              clear hK K
              replace hu0 := GB.trans _ _ _ hu0 hby
              clear hby
              refine S0 (by rfl) (by rfl) (fun u hu => X.neq rfl (by rfl) (by rfl) Try.underlying59 guard59 HX.out HB64.out) ?_
              simp only [Act.put, List.setIfInBounds_toArray, List.set_cons_zero, List.set_cons_succ]
              rw [hqb]
              iterate 2 (refine S0w (v := ?_) (by rfl) (by rfl) (fun u hu N hN => ?_) ?_; rotate_left; (go_simp; exact hN); simp only [Act.put, List.setIfInBounds_toArray, List.set_cons_zero, List.set_cons_succ])
              iterate 4 (refine S0w (v := ?_) (by rfl) (by rfl) (fun u hu N hN => ?_) ?_; rotate_left; (go_simp; exact hN); simp only [Act.put, List.setIfInBounds_toArray, List.set_cons_zero, List.set_cons_succ])
              rw [show IntKind.i64.wrap ((steps : Int) + 3) = (steps : Int) + 3 from wrapi _ (by omega) (by omega), hqg]
              iterate 1 (refine S0w (v := ?_) (by rfl) (by rfl) (fun u hu N hN => ?_) ?_; rotate_left; (go_simp; exact hN); simp only [Act.put, List.setIfInBounds_toArray, List.set_cons_zero, List.set_cons_succ])
              iterate 2 (refine S0n (by rfl) (by rfl) ?_; simp only [Act.put, List.setIfInBounds_toArray, List.set_cons_zero, List.set_cons_succ])
              (refine S1n GB.refl (by rfl) (by rfl) ?_; simp only [Act.put, List.setIfInBounds_toArray, List.set_cons_zero, List.set_cons_succ])
              iterate 1 (refine S0n (by rfl) (by rfl) ?_; simp only [Act.put, List.setIfInBounds_toArray, List.set_cons_zero, List.set_cons_succ])
              iterate 2 (refine S0w (v := ?_) (by rfl) (by rfl) (fun u hu N hN => ?_) ?_; rotate_left; (go_simp; exact hN); simp only [Act.put, List.setIfInBounds_toArray, List.set_cons_zero, List.set_cons_succ])
              refine S.done ?_
              go_wp2_with fail
              go_meet
              case rel => exact ⟨rfl, GB.trans _ _ _ (GB.drew w11) hu0⟩
        case rest =>
          obtain ⟨rfl, hgc⟩ := hcut
          have gc1 := fun {T : TypeId} {cs : List Value} {b : Nat} (h : Blk w11 b T cs) => h.gb hgc
          have hd12 := hd11.gb hgc
          have hZ12 := Blk.gb hA11 hgc
          have hB12 := Blk.gb hB11 hgc
          have hg12 := GB.trans _ _ _ hg11 hgc
          have hlen4 := HO.out.len
          have HWL := Lib.hid (HO.out.rest)
          have HDG := Lib.hid HO.out.dg
          have HLEN := Lib.hid hlen4
          have HB64 := Lib.hid (full_length c)
          have HFB : Hid (∀ u, Calls Try.prog 83 #[.int .u8 (n8 c)] u fun e w' => e = .returned (arr (full c)) ∧ GB u w') := Lib.hid (fun u => full_any c u)
          have HFC : Hid (∀ (x : UInt8) u, Calls Try.prog 83 #[.int .u8 (n8 x)] u fun e w' => e = .returned (arr (full x)) ∧ GB u w') := Lib.hid (fun x u => full_any x u)
          clear gc1 hgc hd11 hA11 hB11 hg11 hA11d HO hlen4 HSOME HDONE HF HWL
          go_wp2_with fail
          go_loopw [19] (fun y wr => ∃ i : Nat, y = .int .i64 i ∧ 1 ≤ i ∧ i ≤ m ∧ GB wc wr) (fun y _ => m - (intOf y).toNat)
          case atStart => exact ⟨1, rfl, by omega, by omega, GB.refl _⟩
          case round =>
            obtain ⟨i, rfl, hi1, him, hgr⟩ := hrel
            by_cases hlt : i < m
            · have hd := hd12.gb hgr
              have hZ := Blk.gb hZ12 hgr
              have hB := Blk.gb hB12 hgr
              have hgw := GB.trans _ _ _ hg12 hgr
              have hrd := read_any p d4 F i _ hd HDG.out
              rw [read_at d4 i (by rw [HLEN.out]; exact hlt)] at hrd
              have hs64 : (d4.img.getD i []).length = 64 := by
                have h0 : i < d4.img.length := by rw [HLEN.out]; exact hlt
                have := HDG.out.sec.at i h0
                rw [show d4.img.getD i [] = d4.img[i] by simp [List.getD, h0]]
                exact this
              have hrw : ((steps : Int) + 1 ≤ fuse ∨ (Z = full c ∧ c ≠ 0)) → d4.img.getD i [] = full (want.getD i 0) := fun h => HREST.out h i (by omega) hlt
              generalize d4.img.getD i [] = Y at *
              have HS64 := Lib.hid hs64
              have HRW := Lib.hid hrw
              have hwi : want.getD i 0 = want[i]'(by omega) := by simp [List.getD, show i < want.length by omega]
              have hcell := hB.get8 i (by omega)
              have HWI : Hid (want.getD i 0 = want[i]'(by omega)) := Lib.hid hwi
              generalize want[i]'(by omega) = z at *
              clear hs64 hrw hwi
              go_wp2_with fail
              refine hrd.mono ?_
              rintro e w13 ⟨rfl, hb13⟩
              clear hrd
              simp only
              go_wp2_with (first | with_reducible refine halt_alloc 59 ?_ | with_reducible refine halt_store 59 ?_)
              refine L.alloc rfl zero59 (by rfl) ?_
              intro w14 hA14 hG14
              simp only [Act.put, List.setIfInBounds_toArray, List.set_cons_zero, List.set_cons_succ]
              go_wp2_with (first | with_reducible refine halt_alloc 59 ?_ | with_reducible refine halt_store 59 ?_)
              refine L.store rfl info59 (by rfl) (by rfl) hA14 (by rw [List.length_map]; exact hz64.out) HS64.out (by rfl) ?_
              intro wk hS hG15
              simp only [Act.put]
              have fk : Fr (· = w13.heap.size) w13 wk := (Fr.of_gb hG14).trans (Fr.of_grown hG15 (fun j hj => by cases hj; rfl))
              have gk : GB wr wk := Fr.gbw hb13 (fun j e => by have := Below.size hb13; omega) fk
              have hSd := Blk.gb hS (GB.drew wk)
              have hZd := Blk.gb (Blk.gb hZ gk) (GB.drew wk)
              have hc13 := gk.cell hcell
              have C1 : ∀ u, GB wk.drew u → u.cell? ⟨w1.heap.size, i, none⟩ = some (.int .u8 (n8 z)) := fun u hu => hu.cell ((GB.drew wk).cell hc13)
              have hgk := GB.trans _ _ _ (GB.trans _ _ _ hgr gk) (GB.drew wk)
              have HFW : Hid (∀ u, Calls Try.prog 83 #[.int .u8 (n8 z)] u fun e w' => e = .returned (arr (full z)) ∧ GB u w') := Lib.hid (fun u => HFC.out z u)
              have HW64 := Lib.hid (full_length z)
              have HRZ : Hid (((steps : Int) + 1 ≤ fuse ∨ (Z = full c ∧ c ≠ 0)) → Y = full z) := Lib.hid (fun h => by rw [HRW.out h, HWI.out])
              clear fk gk hS hZ hc13 hcell hG14 hG15 hA14 hd hB hgw hb13 HRW HWI
              generalize w13.heap.size = b20 at *
              have HC0 : Hid (∀ x : UInt8, x ≠ 0 → ((n8 x : Int) != 0) = true) := Lib.hid (fun x h => by rw [bne_iff_ne]; intro h'; exact h (n8_inj (h'.trans (by rfl))))
              generalize hWW : full z = W at *
              generalize hCC : full c = V at *
              go_upto_region 30 with fail
              go_cut [177] (fun s wx => s = .bool false ∧ GB wk.drew wx)
              case first =>
                by_cases hG : (steps : Int) + 1 ≤ fuse
                · have hqg : decide ((steps : Int) + 1 ≤ fuse) = true := by rw [decide_eq_true_iff]; exact hG
                  have hqw : (!(Y == W)) = false := by rw [HRZ.out (.inl hG)]; simp
                  clear HRZ hG HC0
                  have hu0 := GB.refl wk.drew
                  refine region_gb [(0,0),(1,1),(2,0),(3,0),(4,0),(5,0),(6,0),(7,0),(8,0),(9,0),(10,0),(11,1),(12,0),(13,0),(14,0),(15,0),(16,0),(17,0),(18,0),(19,0),(20,0),(21,0),(22,0),(23,0),(24,1),(25,0),(26,0),(27,0)] [] (by kernel_rfl) ?_
                  iterate 1 (refine S0w (v := ?_) (by rfl) (by rfl) (fun u hu N hN => ?_) ?_; rotate_left; (go_simp; exact hN); simp only [Act.put, List.setIfInBounds_toArray, List.set_cons_zero, List.set_cons_succ])
                  refine S1 (by rfl) (by rfl) (fun K hK => ?_)
                  go_wp2_with fail
                  refine (num_any 0 _).mono ?_
                  rintro e y ⟨rfl, rfl⟩
                  refine hK _ _ (GB.refl _) ?_
                  clear hK K
                  iterate 2 (refine S0w (v := ?_) (by rfl) (by rfl) (fun u hu N hN => ?_) ?_; rotate_left; (go_simp; exact hN); simp only [Act.put, List.setIfInBounds_toArray, List.set_cons_zero, List.set_cons_succ])
                  iterate 3 (refine S0w (v := ?_) (by rfl) (by rfl) (fun u hu N hN => ?_) ?_; rotate_left; (go_simp; exact hN); simp only [Act.put, List.setIfInBounds_toArray, List.set_cons_zero, List.set_cons_succ])
                  rw [show IntKind.i64.wrap ((steps : Int) + 1) = (steps : Int) + 1 from wrapi _ (by omega) (by omega)]
                  iterate 1 (refine S0w (v := ?_) (by rfl) (by rfl) (fun u hu N hN => ?_) ?_; rotate_left; (go_simp; exact hN); simp only [Act.put, List.setIfInBounds_toArray, List.set_cons_zero, List.set_cons_succ])
                  try rw [hqg]
                  iterate 1 (refine S0w (v := ?_) (by rfl) (by rfl) (fun u hu N hN => ?_) ?_; rotate_left; (go_simp; exact hN); simp only [Act.put, List.setIfInBounds_toArray, List.set_cons_zero, List.set_cons_succ])
                  iterate 2 (refine S0n (by rfl) (by rfl) ?_; simp only [Act.put, List.setIfInBounds_toArray, List.set_cons_zero, List.set_cons_succ])
                  (refine S1n GB.refl (by rfl) (by rfl) ?_; simp only [Act.put, List.setIfInBounds_toArray, List.set_cons_zero, List.set_cons_succ])
                  iterate 2 (refine S0n (by rfl) (by rfl) ?_; simp only [Act.put, List.setIfInBounds_toArray, List.set_cons_zero, List.set_cons_succ])
                  iterate 2 (refine S0n (by rfl) (by rfl) ?_; simp only [Act.put, List.setIfInBounds_toArray, List.set_cons_zero, List.set_cons_succ])
                  iterate 1 (refine S0n (by rfl) (by rfl) ?_; simp only [Act.put, List.setIfInBounds_toArray, List.set_cons_zero, List.set_cons_succ])
                  iterate 2 (refine S0w (v := ?_) (by rfl) (by rfl) (fun u hu N hN => ?_) ?_; rotate_left; (go_simp; exact hN); simp only [Act.put, List.setIfInBounds_toArray, List.set_cons_zero, List.set_cons_succ])
                  refine S0 (by rfl) (by rfl) (fun u hu => X.load rfl (by rfl) Try.underlying59 info59 (hSd.gb (GB.trans _ _ _ hu0 hu)) HS64.out) ?_
                  simp only [Act.put, List.setIfInBounds_toArray, List.set_cons_zero, List.set_cons_succ]
                  iterate 4 (refine S0w (v := ?_) (by rfl) (by rfl) (fun u hu N hN => ?_) ?_; rotate_left; (go_simp; exact hN); simp only [Act.put, List.setIfInBounds_toArray, List.set_cons_zero, List.set_cons_succ])
                  refine S1 (by rfl) (by rfl) (fun K hK => ?_)
                  go_wp2_with fail
                  refine (HFW.out _).mono ?_
                  rintro e y ⟨rfl, hby⟩
                  refine hK _ _ hby ?_
                  clear hK K
                  replace hu0 := GB.trans _ _ _ hu0 hby
                  clear hby
                  refine S0 (by rfl) (by rfl) (fun u hu => X.neq rfl (by rfl) (by rfl) Try.underlying59 guard59 HS64.out HW64.out) ?_
                  simp only [Act.put, List.setIfInBounds_toArray, List.set_cons_zero, List.set_cons_succ]
                  rw [hqw]
                  iterate 2 (refine S0w (v := ?_) (by rfl) (by rfl) (fun u hu N hN => ?_) ?_; rotate_left; (go_simp; exact hN); simp only [Act.put, List.setIfInBounds_toArray, List.set_cons_zero, List.set_cons_succ])
                  refine S.done ?_
                  go_wp2_with fail
                  go_meet
                  case rel => exact ⟨rfl, hu0⟩
                · have hqg : decide ((steps : Int) + 1 ≤ fuse) = false := by rw [decide_eq_false_iff_not]; exact hG
                  by_cases hV : Z = V
                  · have hqb : (Z == V) = true := by simp [hV]
                    by_cases hc0 : c = 0
                    · have hcn : ((n8 c : Int) != 0) = false := by rw [hc0]; rfl
                      clear HRZ hG HC0 hV hc0 hCC
                      have hu0 := GB.refl wk.drew
                      refine region_gb [(0,0),(1,1),(2,0),(3,0),(4,0),(5,0),(6,0),(7,0),(8,0),(9,0),(10,0),(11,1),(12,0),(13,0),(14,0),(15,0),(16,0),(17,0),(18,0),(19,0),(20,0),(21,0),(22,0),(23,0),(24,1),(25,0),(26,0),(27,0)] [] (by kernel_rfl) ?_
                      iterate 1 (refine S0w (v := ?_) (by rfl) (by rfl) (fun u hu N hN => ?_) ?_; rotate_left; (go_simp; exact hN); simp only [Act.put, List.setIfInBounds_toArray, List.set_cons_zero, List.set_cons_succ])
                      refine S1 (by rfl) (by rfl) (fun K hK => ?_)
                      go_wp2_with fail
                      refine (num_any 0 _).mono ?_
                      rintro e y ⟨rfl, rfl⟩
                      refine hK _ _ (GB.refl _) ?_
                      clear hK K
                      iterate 2 (refine S0w (v := ?_) (by rfl) (by rfl) (fun u hu N hN => ?_) ?_; rotate_left; (go_simp; exact hN); simp only [Act.put, List.setIfInBounds_toArray, List.set_cons_zero, List.set_cons_succ])
                      iterate 3 (refine S0w (v := ?_) (by rfl) (by rfl) (fun u hu N hN => ?_) ?_; rotate_left; (go_simp; exact hN); simp only [Act.put, List.setIfInBounds_toArray, List.set_cons_zero, List.set_cons_succ])
                      rw [show IntKind.i64.wrap ((steps : Int) + 1) = (steps : Int) + 1 from wrapi _ (by omega) (by omega)]
                      iterate 1 (refine S0w (v := ?_) (by rfl) (by rfl) (fun u hu N hN => ?_) ?_; rotate_left; (go_simp; exact hN); simp only [Act.put, List.setIfInBounds_toArray, List.set_cons_zero, List.set_cons_succ])
                      try rw [hqg]
                      iterate 1 (refine S0w (v := ?_) (by rfl) (by rfl) (fun u hu N hN => ?_) ?_; rotate_left; (go_simp; exact hN); simp only [Act.put, List.setIfInBounds_toArray, List.set_cons_zero, List.set_cons_succ])
                      refine S0 (by rfl) (by rfl) (fun u hu => X.load rfl (by rfl) Try.underlying59 info59 (hZd.gb (GB.trans _ _ _ hu0 hu)) HX.out) ?_
                      simp only [Act.put, List.setIfInBounds_toArray, List.set_cons_zero, List.set_cons_succ]
                      iterate 1 (refine S0w (v := ?_) (by rfl) (by rfl) (fun u hu N hN => ?_) ?_; rotate_left; (go_simp; exact hN); simp only [Act.put, List.setIfInBounds_toArray, List.set_cons_zero, List.set_cons_succ])
                      refine S1 (by rfl) (by rfl) (fun K hK => ?_)
                      go_wp2_with fail
                      refine (HFB.out _).mono ?_
                      rintro e y ⟨rfl, hby⟩
                      refine hK _ _ hby ?_
                      clear hK K
                      replace hu0 := GB.trans _ _ _ hu0 hby
                      clear hby
                      refine S0 (by rfl) (by rfl) (fun u hu => X.eql rfl (by rfl) (by rfl) Try.underlying59 guard59 HX.out HB64.out) ?_
                      simp only [Act.put, List.setIfInBounds_toArray, List.set_cons_zero, List.set_cons_succ]
                      rw [hqb]
                      iterate 1 (refine S0w (v := ?_) (by rfl) (by rfl) (fun u hu N hN => ?_) ?_; rotate_left; (go_simp; exact hN); simp only [Act.put, List.setIfInBounds_toArray, List.set_cons_zero, List.set_cons_succ])
                      iterate 1 (refine S0w (v := ?_) (by rfl) (by rfl) (fun u hu N hN => ?_) ?_; rotate_left; (go_simp; exact hN); simp only [Act.put, List.setIfInBounds_toArray, List.set_cons_zero, List.set_cons_succ])
                      iterate 1 (refine S0w (v := ?_) (by rfl) (by rfl) (fun u hu N hN => ?_) ?_; rotate_left; (go_simp; exact hN); simp only [Act.put, List.setIfInBounds_toArray, List.set_cons_zero, List.set_cons_succ])
                      iterate 1 (refine S0w (v := ?_) (by rfl) (by rfl) (fun u hu N hN => ?_) ?_; rotate_left; (go_simp; exact hN); simp only [Act.put, List.setIfInBounds_toArray, List.set_cons_zero, List.set_cons_succ])
                      iterate 2 (refine S0w (v := ?_) (by rfl) (by rfl) (fun u hu N hN => ?_) ?_; rotate_left; (go_simp; exact hN); simp only [Act.put, List.setIfInBounds_toArray, List.set_cons_zero, List.set_cons_succ])
                      iterate 5 (refine S0n (by rfl) (by rfl) ?_; simp only [Act.put, List.setIfInBounds_toArray, List.set_cons_zero, List.set_cons_succ])
                      (refine S1n GB.refl (by rfl) (by rfl) ?_; simp only [Act.put, List.setIfInBounds_toArray, List.set_cons_zero, List.set_cons_succ])
                      iterate 1 (refine S0n (by rfl) (by rfl) ?_; simp only [Act.put, List.setIfInBounds_toArray, List.set_cons_zero, List.set_cons_succ])
                      iterate 2 (refine S0w (v := ?_) (by rfl) (by rfl) (fun u hu N hN => ?_) ?_; rotate_left; (go_simp; exact hN); simp only [Act.put, List.setIfInBounds_toArray, List.set_cons_zero, List.set_cons_succ])
                      refine S.done ?_
                      go_wp2_with fail
                      go_meet
                      case rel => exact ⟨rfl, hu0⟩
                    · have hcn : ((n8 c : Int) != 0) = true := HC0.out c hc0
                      have hqw : (!(Y == W)) = false := by rw [HRZ.out (.inr ⟨hV, hc0⟩)]; simp
                      clear HRZ hG HC0 hV hc0 hCC
                      have hu0 := GB.refl wk.drew
                      refine region_gb [(0,0),(1,1),(2,0),(3,0),(4,0),(5,0),(6,0),(7,0),(8,0),(9,0),(10,0),(11,1),(12,0),(13,0),(14,0),(15,0),(16,0),(17,0),(18,0),(19,0),(20,0),(21,0),(22,0),(23,0),(24,1),(25,0),(26,0),(27,0)] [] (by kernel_rfl) ?_
                      iterate 1 (refine S0w (v := ?_) (by rfl) (by rfl) (fun u hu N hN => ?_) ?_; rotate_left; (go_simp; exact hN); simp only [Act.put, List.setIfInBounds_toArray, List.set_cons_zero, List.set_cons_succ])
                      refine S1 (by rfl) (by rfl) (fun K hK => ?_)
                      go_wp2_with fail
                      refine (num_any 0 _).mono ?_
                      rintro e y ⟨rfl, rfl⟩
                      refine hK _ _ (GB.refl _) ?_
                      clear hK K
                      iterate 2 (refine S0w (v := ?_) (by rfl) (by rfl) (fun u hu N hN => ?_) ?_; rotate_left; (go_simp; exact hN); simp only [Act.put, List.setIfInBounds_toArray, List.set_cons_zero, List.set_cons_succ])
                      iterate 3 (refine S0w (v := ?_) (by rfl) (by rfl) (fun u hu N hN => ?_) ?_; rotate_left; (go_simp; exact hN); simp only [Act.put, List.setIfInBounds_toArray, List.set_cons_zero, List.set_cons_succ])
                      rw [show IntKind.i64.wrap ((steps : Int) + 1) = (steps : Int) + 1 from wrapi _ (by omega) (by omega)]
                      iterate 1 (refine S0w (v := ?_) (by rfl) (by rfl) (fun u hu N hN => ?_) ?_; rotate_left; (go_simp; exact hN); simp only [Act.put, List.setIfInBounds_toArray, List.set_cons_zero, List.set_cons_succ])
                      try rw [hqg]
                      iterate 1 (refine S0w (v := ?_) (by rfl) (by rfl) (fun u hu N hN => ?_) ?_; rotate_left; (go_simp; exact hN); simp only [Act.put, List.setIfInBounds_toArray, List.set_cons_zero, List.set_cons_succ])
                      refine S0 (by rfl) (by rfl) (fun u hu => X.load rfl (by rfl) Try.underlying59 info59 (hZd.gb (GB.trans _ _ _ hu0 hu)) HX.out) ?_
                      simp only [Act.put, List.setIfInBounds_toArray, List.set_cons_zero, List.set_cons_succ]
                      iterate 1 (refine S0w (v := ?_) (by rfl) (by rfl) (fun u hu N hN => ?_) ?_; rotate_left; (go_simp; exact hN); simp only [Act.put, List.setIfInBounds_toArray, List.set_cons_zero, List.set_cons_succ])
                      refine S1 (by rfl) (by rfl) (fun K hK => ?_)
                      go_wp2_with fail
                      refine (HFB.out _).mono ?_
                      rintro e y ⟨rfl, hby⟩
                      refine hK _ _ hby ?_
                      clear hK K
                      replace hu0 := GB.trans _ _ _ hu0 hby
                      clear hby
                      refine S0 (by rfl) (by rfl) (fun u hu => X.eql rfl (by rfl) (by rfl) Try.underlying59 guard59 HX.out HB64.out) ?_
                      simp only [Act.put, List.setIfInBounds_toArray, List.set_cons_zero, List.set_cons_succ]
                      rw [hqb]
                      iterate 1 (refine S0w (v := ?_) (by rfl) (by rfl) (fun u hu N hN => ?_) ?_; rotate_left; (go_simp; exact hN); simp only [Act.put, List.setIfInBounds_toArray, List.set_cons_zero, List.set_cons_succ])
                      iterate 1 (refine S0w (v := ?_) (by rfl) (by rfl) (fun u hu N hN => ?_) ?_; rotate_left; (go_simp; exact hN); simp only [Act.put, List.setIfInBounds_toArray, List.set_cons_zero, List.set_cons_succ])
                      iterate 1 (refine S0w (v := ?_) (by rfl) (by rfl) (fun u hu N hN => ?_) ?_; rotate_left; (go_simp; exact hN); simp only [Act.put, List.setIfInBounds_toArray, List.set_cons_zero, List.set_cons_succ])
                      iterate 1 (refine S0w (v := ?_) (by rfl) (by rfl) (fun u hu N hN => ?_) ?_; rotate_left; (go_simp; exact hN); simp only [Act.put, List.setIfInBounds_toArray, List.set_cons_zero, List.set_cons_succ])
                      iterate 2 (refine S0w (v := ?_) (by rfl) (by rfl) (fun u hu N hN => ?_) ?_; rotate_left; (go_simp; exact hN); simp only [Act.put, List.setIfInBounds_toArray, List.set_cons_zero, List.set_cons_succ])
                      refine S0 (by rfl) (by rfl) (fun u hu => X.load rfl (by rfl) Try.underlying59 info59 (hSd.gb (GB.trans _ _ _ hu0 hu)) HS64.out) ?_
                      simp only [Act.put, List.setIfInBounds_toArray, List.set_cons_zero, List.set_cons_succ]
                      have C2 := fun u (hu : GB y u) => C1 u (GB.trans _ _ _ hu0 hu)
                      iterate 4 (refine S0w (v := ?_) (by rfl) (by rfl) (fun u hu N hN => ?_) ?_; rotate_left; (go_simp; exact hN); simp only [Act.put, List.setIfInBounds_toArray, List.set_cons_zero, List.set_cons_succ])
                      refine S1 (by rfl) (by rfl) (fun K hK => ?_)
                      go_wp2_with fail
                      refine (HFW.out _).mono ?_
                      rintro e y ⟨rfl, hby⟩
                      refine hK _ _ hby ?_
                      clear hK K
                      replace hu0 := GB.trans _ _ _ hu0 hby
                      clear hby
                      refine S0 (by rfl) (by rfl) (fun u hu => X.neq rfl (by rfl) (by rfl) Try.underlying59 guard59 HS64.out HW64.out) ?_
                      simp only [Act.put, List.setIfInBounds_toArray, List.set_cons_zero, List.set_cons_succ]
                      rw [hqw]
                      iterate 2 (refine S0w (v := ?_) (by rfl) (by rfl) (fun u hu N hN => ?_) ?_; rotate_left; (go_simp; exact hN); simp only [Act.put, List.setIfInBounds_toArray, List.set_cons_zero, List.set_cons_succ])
                      refine S.done ?_
                      go_wp2_with fail
                      go_meet
                      case rel => exact ⟨rfl, hu0⟩
                  · have hqb : (Z == V) = false := by simp [hV]
                    clear HRZ hG HC0 hV hCC
                    have hu0 := GB.refl wk.drew
                    refine region_gb [(0,0),(1,1),(2,0),(3,0),(4,0),(5,0),(6,0),(7,0),(8,0),(9,0),(10,0),(11,1),(12,0),(13,0),(14,0),(15,0),(16,0),(17,0),(18,0),(19,0),(20,0),(21,0),(22,0),(23,0),(24,1),(25,0),(26,0),(27,0)] [] (by kernel_rfl) ?_
                    iterate 1 (refine S0w (v := ?_) (by rfl) (by rfl) (fun u hu N hN => ?_) ?_; rotate_left; (go_simp; exact hN); simp only [Act.put, List.setIfInBounds_toArray, List.set_cons_zero, List.set_cons_succ])
                    refine S1 (by rfl) (by rfl) (fun K hK => ?_)
                    go_wp2_with fail
                    refine (num_any 0 _).mono ?_
                    rintro e y ⟨rfl, rfl⟩
                    refine hK _ _ (GB.refl _) ?_
                    clear hK K
                    iterate 2 (refine S0w (v := ?_) (by rfl) (by rfl) (fun u hu N hN => ?_) ?_; rotate_left; (go_simp; exact hN); simp only [Act.put, List.setIfInBounds_toArray, List.set_cons_zero, List.set_cons_succ])
                    iterate 3 (refine S0w (v := ?_) (by rfl) (by rfl) (fun u hu N hN => ?_) ?_; rotate_left; (go_simp; exact hN); simp only [Act.put, List.setIfInBounds_toArray, List.set_cons_zero, List.set_cons_succ])
                    rw [show IntKind.i64.wrap ((steps : Int) + 1) = (steps : Int) + 1 from wrapi _ (by omega) (by omega)]
                    iterate 1 (refine S0w (v := ?_) (by rfl) (by rfl) (fun u hu N hN => ?_) ?_; rotate_left; (go_simp; exact hN); simp only [Act.put, List.setIfInBounds_toArray, List.set_cons_zero, List.set_cons_succ])
                    try rw [hqg]
                    iterate 1 (refine S0w (v := ?_) (by rfl) (by rfl) (fun u hu N hN => ?_) ?_; rotate_left; (go_simp; exact hN); simp only [Act.put, List.setIfInBounds_toArray, List.set_cons_zero, List.set_cons_succ])
                    refine S0 (by rfl) (by rfl) (fun u hu => X.load rfl (by rfl) Try.underlying59 info59 (hZd.gb (GB.trans _ _ _ hu0 hu)) HX.out) ?_
                    simp only [Act.put, List.setIfInBounds_toArray, List.set_cons_zero, List.set_cons_succ]
                    iterate 1 (refine S0w (v := ?_) (by rfl) (by rfl) (fun u hu N hN => ?_) ?_; rotate_left; (go_simp; exact hN); simp only [Act.put, List.setIfInBounds_toArray, List.set_cons_zero, List.set_cons_succ])
                    refine S1 (by rfl) (by rfl) (fun K hK => ?_)
                    go_wp2_with fail
                    refine (HFB.out _).mono ?_
                    rintro e y ⟨rfl, hby⟩
                    refine hK _ _ hby ?_
                    clear hK K
                    replace hu0 := GB.trans _ _ _ hu0 hby
                    clear hby
                    refine S0 (by rfl) (by rfl) (fun u hu => X.eql rfl (by rfl) (by rfl) Try.underlying59 guard59 HX.out HB64.out) ?_
                    simp only [Act.put, List.setIfInBounds_toArray, List.set_cons_zero, List.set_cons_succ]
                    rw [hqb]
                    iterate 1 (refine S0w (v := ?_) (by rfl) (by rfl) (fun u hu N hN => ?_) ?_; rotate_left; (go_simp; exact hN); simp only [Act.put, List.setIfInBounds_toArray, List.set_cons_zero, List.set_cons_succ])
                    iterate 2 (refine S0n (by rfl) (by rfl) ?_; simp only [Act.put, List.setIfInBounds_toArray, List.set_cons_zero, List.set_cons_succ])
                    iterate 1 (refine S0w (v := ?_) (by rfl) (by rfl) (fun u hu N hN => ?_) ?_; rotate_left; (go_simp; exact hN); simp only [Act.put, List.setIfInBounds_toArray, List.set_cons_zero, List.set_cons_succ])
                    iterate 2 (refine S0w (v := ?_) (by rfl) (by rfl) (fun u hu N hN => ?_) ?_; rotate_left; (go_simp; exact hN); simp only [Act.put, List.setIfInBounds_toArray, List.set_cons_zero, List.set_cons_succ])
                    iterate 5 (refine S0n (by rfl) (by rfl) ?_; simp only [Act.put, List.setIfInBounds_toArray, List.set_cons_zero, List.set_cons_succ])
                    (refine S1n GB.refl (by rfl) (by rfl) ?_; simp only [Act.put, List.setIfInBounds_toArray, List.set_cons_zero, List.set_cons_succ])
                    iterate 1 (refine S0n (by rfl) (by rfl) ?_; simp only [Act.put, List.setIfInBounds_toArray, List.set_cons_zero, List.set_cons_succ])
                    iterate 2 (refine S0w (v := ?_) (by rfl) (by rfl) (fun u hu N hN => ?_) ?_; rotate_left; (go_simp; exact hN); simp only [Act.put, List.setIfInBounds_toArray, List.set_cons_zero, List.set_cons_succ])
                    refine S.done ?_
                    go_wp2_with fail
                    go_meet
                    case rel => exact ⟨rfl, hu0⟩
              case rest =>
                obtain ⟨rfl, hgc⟩ := hcut
                go_wp2_with fail
                go_roundw
                case rel => exact ⟨i + 1, by go_num, by omega, by omega, GB.trans _ _ _ hgk hgc⟩
                case measure => simp [intOf]; omega
            · go_wp2_with fail
              go_ret
              exact ⟨rfl, GB.trans _ _ _ hg0 (GB.trans _ _ _ hg12 hgr)⟩
end Go.Proofs.Ytiihllfjlgbfcaa
