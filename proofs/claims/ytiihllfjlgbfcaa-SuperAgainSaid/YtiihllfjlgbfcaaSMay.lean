/- The walks of super.May and of the reference's. -/
import Derived.Test.YtiihllfjlgbfcaaSTools
import Derived.Deep.CutBlock
import Derived.Deep.DeepCutAuto
namespace Go.Proofs.Ytiihllfjlgbfcaa
open Go.RowKit
theorem w23_64 (n : UInt32) : IntKind.u64.wrap (n32 n) = n32 n := by
  show n32 n % 18446744073709551616 = _
  have := n32_range n; omega
theorem w23_i (n : UInt32) : IntKind.i64.wrap (n32 n) = n32 n := wrapi _ (by have := n32_range n; omega) (by have := n32_range n; omega)
theorem in_any (n : UInt32) (b : Int) (w : World) (h0 : 0 ≤ b) (h1 : b ≤ 9223372036854775807) : Calls Try.prog 124 #[.int .u32 (n32 n), .int .i64 b] w fun e w' => e = .returned (.bool (decide (n32 n < b))) ∧ w = w' := by
  have l1 := w23_64 n
  have l2 : IntKind.u64.wrap b = b := by show b % 18446744073709551616 = _; omega
  go_enter Try.func124, Try.ntmps124
  go_wp2_with fail
  go_ret
  exact ⟨rfl, rfl⟩
theorem Su.cells (s : Su) (hp : s.pg.length = 6) : ∃ p0 p1 p2 p3 p4 p5, s.pg = [p0, p1, p2, p3, p4, p5] := by
  match s.pg, hp with
  | [p0, p1, p2, p3, p4, p5], _ => exact ⟨_, _, _, _, _, _, rfl⟩
theorem suC_at (s : Su) (hp : s.pg.length = 6) (j : Nat) (hj : j < 9) : (suC s)[(match j with | 0 => 3 | 1 => 4 | 2 => 5 | 3 => 6 | 4 => 7 | 5 => 8 | 6 => 9 | 7 => 10 | _ => 11)]? = (s.nums[j]?).map b32 := by
  obtain ⟨p0, p1, p2, p3, p4, p5, h⟩ := s.cells hp
  unfold suC Su.nums
  rw [h]
  match j, hj with
  | 0, _ | 1, _ | 2, _ | 3, _ | 4, _ | 5, _ | 6, _ | 7, _ | 8, _ => rfl
theorem suC_nums (s : Su) (hp : s.pg.length = 6) (j : Nat) (hj : j < 9) : (suC s)[3 + j]? = (s.nums[j]?).map b32 := by
  have := suC_at s hp j hj
  match j, hj with
  | 0, _ | 1, _ | 2, _ | 3, _ | 4, _ | 5, _ | 6, _ | 7, _ | 8, _ => exact this
theorem nums_length (s : Su) (hp : s.pg.length = 6) : s.nums.length = 9 := by simp [Su.nums, hp]
/-- The cells that a boxed superblock shows. -/
theorem su_cells {w : World} {g : Nat} {T : TypeId} {s : Su} (h : Blk w g T (suC s)) (hp : s.pg.length = 6) :
    w.cell? ⟨g, 0, none⟩ = some (.int .u64 (n64 s.tx)) ∧ w.cell? ⟨g, 1, none⟩ = some (.int .i64 s.me) ∧ w.cell? ⟨g, 2, none⟩ = some (.int .i64 s.da) ∧ w.cell? ⟨g, 9, none⟩ = some (.int .u32 (n32 s.top)) ∧ w.cell? ⟨g, 10, none⟩ = some (.int .u32 (n32 s.base)) ∧ w.cell? ⟨g, 11, none⟩ = some (.int .u32 (n32 s.stage)) ∧ w.cell? ⟨g, 12, none⟩ = some (.int .i64 s.cur) := by
  obtain ⟨p0, p1, p2, p3, p4, p5, hq⟩ := s.cells hp
  have hc := fun j => h.cell j
  unfold suC at hc
  rw [hq] at hc
  exact ⟨hc 0, hc 1, hc 2, hc 9, hc 10, hc 11, hc 12⟩
theorem su_num {w : World} {g : Nat} {T : TypeId} {s : Su} (h : Blk w g T (suC s)) (hp : s.pg.length = 6) (j : Nat) (hj : j < s.nums.length) : w.cell? ⟨g, 3 + j, none⟩ = some (.int .u32 (n32 s.nums[j])) := by
  rw [h.cell, suC_nums s hp j (by rw [nums_length s hp] at hj; exact hj), List.getElem?_eq_getElem hj]; rfl
set_option maxHeartbeats 4000000 in
set_option maxRecDepth 100000 in
theorem rmay5_any (s : Su) (hs : s.Ok) (w : World) : Calls Try.prog 76 #[suV s] w fun e w' => e = .returned (.bool (mayS s)) ∧ GB w w' := by
  obtain ⟨hp, hme, hda, hcur⟩ := hs
  have hnl := nums_length s hp
  have HM : Hid (mayS s = (mayHead s && s.nums.all (fun n => decide (n32 n < s.me)))) := Lib.hid rfl
  have HH : Hid (mayHead s = !(decide (s.me < 16) || decide (240 < s.me) || decide (s.da < 1) || decide (480 < s.da) || decide (n64 s.tx < 1) || decide (4611686018427387904 < n64 s.tx) || decide (s.cur < 0) || decide (s.da ≤ s.cur))) := Lib.hid rfl
  go_enter Try.func76, Try.ntmps76
  go_wp2_with (first | with_reducible refine halt_box 82 ?_)
  refine L.box82 rfl (by rfl) (by rfl) ?_
  intro w1 hB1 hG1
  simp only [Act.put, List.setIfInBounds_toArray, List.set_cons_zero, List.set_cons_succ]
  obtain ⟨c0, c1, c2, c9, c10, c11, c12⟩ := su_cells hB1 hp
  have hnum := fun j (hj : j < s.nums.length) => su_num hB1 hp j hj
  have hsp : s.nums.all (fun n => decide (n32 n < s.me)) = ((s.nums.take 6).all (fun n => decide (n32 n < s.me)) && (decide (n32 s.top < s.me) && (decide (n32 s.base < s.me) && decide (n32 s.stage < s.me)))) := by
    obtain ⟨p0, p1, p2, p3, p4, p5, hq⟩ := s.cells hp
    simp [Su.nums, hq, Bool.and_assoc]
  have HSP := Lib.hid hsp
  have HNS : Hid (s.nums.take 6 ++ [s.top, s.base, s.stage] = s.nums) := Lib.hid (by
    obtain ⟨p0, p1, p2, p3, p4, p5, hq⟩ := s.cells hp
    simp [Su.nums, hq])
  clear hsp
  generalize s.nums = N at *
  generalize mayHead s = H at *
  generalize s.tx = tx at *
  generalize s.me = me at *
  generalize s.da = da at *
  generalize s.cur = cur at *
  generalize s.top = top at *
  generalize s.base = base at *
  generalize s.stage = stage at *
  clear hB1
  go_upto_region 1 with fail
  go_cut [43] (fun v wx => v = .bool (!H) ∧ w1 = wx)
  case first =>
    by_cases h1 : me < 16
    · go_wp2_with fail
      go_meet
      case rel => exact ⟨by rw [HH.out]; simp [h1], rfl⟩
    by_cases h2 : 240 < me
    · go_wp2_with fail
      go_meet
      case rel => exact ⟨by rw [HH.out]; simp [h2], rfl⟩
    by_cases h3 : da < 1
    · go_wp2_with fail
      go_meet
      case rel => exact ⟨by rw [HH.out]; simp [h3], rfl⟩
    by_cases h4 : 480 < da
    · go_wp2_with fail
      go_meet
      case rel => exact ⟨by rw [HH.out]; simp [h4], rfl⟩
    by_cases h5 : n64 tx < 1
    · go_wp2_with fail
      go_meet
      case rel => exact ⟨by rw [HH.out]; simp [h5], rfl⟩
    by_cases h6 : 4611686018427387904 < n64 tx
    · go_wp2_with fail
      go_meet
      case rel => exact ⟨by rw [HH.out]; simp [h6], rfl⟩
    by_cases h7 : cur < 0
    · go_wp2_with fail
      go_meet
      case rel => exact ⟨by rw [HH.out]; simp [h7], rfl⟩
    by_cases h8 : da ≤ cur
    · go_wp2_with fail
      go_meet
      case rel => exact ⟨by rw [HH.out]; simp [h8], rfl⟩
    · go_wp2_with fail
      go_meet
      case rel => exact ⟨by rw [HH.out]; simp [h1, h2, h3, h4, h5, h6, h7, h8], rfl⟩
  case rest =>
    obtain ⟨rfl, rfl⟩ := hcut
    cases H
    case false =>
      go_wp2_with fail
      go_ret
      exact ⟨by rw [HM.out]; rfl, hG1⟩
    have hme16 : 16 ≤ me ∧ me ≤ 240 := by
      have := HH.out
      simp at this
      omega
    have HM2 : Hid (mayS s = ((N.take 6).all (fun n => decide (n32 n < me)) && (decide (n32 top < me) && (decide (n32 base < me) && decide (n32 stage < me))))) := Lib.hid (by rw [HM.out, Bool.true_and, HSP.out])
    have hin := fun (n : UInt32) u => in_any n me u (by omega) (by omega)
    have HIN := Lib.hid hin
    clear hin HM HH HSP c0 c2 c12
    go_wp2_with fail
    go_loopw [3] (fun x wr => ∃ i : Nat, x = .int .i64 i ∧ i ≤ 6 ∧ Hid ((N.take i).all (fun n => decide (n32 n < me)) = true) ∧ GB w1 wr) (fun x _ => 6 - (intOf x).toNat)
    case atStart => exact ⟨0, rfl, by omega, Lib.hid (by simp), GB.refl _⟩
    case round =>
      obtain ⟨i, rfl, hi, HA, hg⟩ := hrel
      have hgd := GB.trans _ _ _ hg (GB.drew wr)
      by_cases hlt : i < 6
      · have hc := hnum i (by omega)
        have hsu : (N.take (i + 1)).all (fun n => decide (n32 n < me)) = decide (n32 (N[i]'(by omega)) < me) := by
          rw [List.take_succ_eq_append_getElem (by omega), List.all_append, HA.out]; simp
        have hfs : decide (n32 (N[i]'(by omega)) < me) = false → (N.take 6).all (fun n => decide (n32 n < me)) = false := fun h => by
          rw [List.all_eq_false]
          exact ⟨N[i]'(by omega), by rw [List.mem_take_iff_getElem]; exact ⟨i, by omega, rfl⟩, by rw [h]; simp⟩
        generalize N[i]'(by omega) = x at *
        have C0 : ∀ u, GB wr.drew u → u.cell? ⟨w.heap.size, 3 + i, none⟩ = some (.int .u32 (n32 x)) := fun u hu => hu.cell (hgd.cell hc)
        have C1 : ∀ u, GB wr.drew u → u.cell? ⟨w.heap.size, 1, none⟩ = some (.int .i64 me) := fun u hu => hu.cell (hgd.cell c1)
        obtain ⟨q, hq⟩ : ∃ q, decide (n32 x < me) = q := ⟨_, rfl⟩
        rw [hq] at hsu hfs
        have hinx := HIN.out x
        rw [hq] at hinx
        have HSU := Lib.hid hsu
        have HFS := Lib.hid hfs
        clear hsu hfs hq hnum
        go_upto_region 6 with fail
        refine region_gb [(0,0),(1,0),(2,0),(3,0),(4,0),(5,0),(6,1),(7,0)] [] (by kernel_rfl) ?_
        iterate 6 (refine S0w (v := ?_) (by rfl) (by rfl) (fun u hu N hN => ?_) ?_; rotate_left; (go_simp; exact hN); simp only [Act.put, List.setIfInBounds_toArray, List.set_cons_zero, List.set_cons_succ])
        refine S1 (by rfl) (by rfl) (fun K hK => ?_)
        go_wp2_with fail
        refine (hinx _).mono ?_
        rintro e y ⟨rfl, rfl⟩
        refine hK _ _ (GB.refl _) ?_
        clear hK K
        iterate 1 (refine S0w (v := ?_) (by rfl) (by rfl) (fun u hu N hN => ?_) ?_; rotate_left; (go_simp; exact hN); simp only [Act.put, List.setIfInBounds_toArray, List.set_cons_zero, List.set_cons_succ])
        refine S.done ?_
        cases q
        · have HF2 := Lib.hid (HFS.out rfl)
          go_wp2_with fail
          go_ret
          exact ⟨by rw [HM2.out, HF2.out]; rfl, GB.trans _ _ _ hG1 hgd⟩
        · go_wp2_with fail
          go_roundw
          case rel => exact ⟨i + 1, by go_num, by omega, HSU, hgd⟩
          case measure => simp [intOf]; omega
      · obtain rfl : i = 6 := by omega
        have HM3 : Hid (mayS s = (decide (n32 top < me) && (decide (n32 base < me) && decide (n32 stage < me)))) := Lib.hid (by rw [HM2.out, HA.out, Bool.true_and])
        have d1 := hg.cell c1
        have d9 := hg.cell c9
        have d10 := hg.cell c10
        have d11 := hg.cell c11
        have i9 := HIN.out top
        have i10 := HIN.out base
        have i11 := HIN.out stage
        obtain ⟨q, hq⟩ : ∃ q, decide (n32 top < me) = q := ⟨_, rfl⟩
        obtain ⟨q2, hq2⟩ : ∃ q2, decide (n32 base < me) = q2 := ⟨_, rfl⟩
        obtain ⟨q3, hq3⟩ : ∃ q3, decide (n32 stage < me) = q3 := ⟨_, rfl⟩
        rw [hq] at i9 HM3
        rw [hq2] at i10 HM3
        rw [hq3] at i11 HM3
        have I9 := Lib.hid i9
        have I10 := Lib.hid i10
        have I11 := Lib.hid i11
        clear HM2 HA hq hq2 hq3 i9 i10 i11 hnum c1 c9 c10 c11
        go_wp2_with fail
        refine (I9.out _).mono ?_
        rintro e y ⟨rfl, rfl⟩
        cases q
        · go_wp2_with fail
          go_ret
          exact ⟨by rw [HM3.out]; rfl, GB.trans _ _ _ hG1 hg⟩
        go_wp2_with fail
        refine (I10.out _).mono ?_
        rintro e y ⟨rfl, rfl⟩
        cases q2
        · go_wp2_with fail
          go_ret
          exact ⟨by rw [HM3.out]; rfl, GB.trans _ _ _ hG1 hg⟩
        go_wp2_with fail
        refine (I11.out _).mono ?_
        rintro e y ⟨rfl, rfl⟩
        go_wp2_with fail
        go_ret
        exact ⟨by rw [HM3.out]; rfl, GB.trans _ _ _ hG1 hg⟩
theorem run_append9 {w : World} {g h : Nat} (ty : TypeId) (ps qs : List UInt32) (hps : ps.length = 6) (hqs : qs.length = 3) (hc : ∀ j v, (ps.map b32)[j]? = some v → w.cell? ⟨g, 3 + j, none⟩ = some v) (hq : Rd w (some ⟨h, 0, none⟩) (qs.map b32)) :
    ∃ c w', (Builtin.append_ #[173, 173] ty #[.slice (some ⟨g, 3, none⟩) 6 6, .slice (some ⟨h, 0, none⟩) 3 3]).run Try.prog w = .ok (.slice (some ⟨w.heap.size, 0, none⟩) 9 c) w' ∧ GB w w' ∧ Rd w' (some ⟨w.heap.size, 0, none⟩) ((ps ++ qs).map b32) := by
  obtain ⟨i, hi, hz0, hz1, hz2⟩ := info_parts info23'
  have hold : (Builtin.firstCells i.size 6 (.slice (some ⟨g, 3, none⟩) 6 6)).run Try.prog w.drew = .ok (ps.map b32).toArray w.drew := by
    rw [hz1]
    exact run_firstCells_some w.drew 1 6 ⟨g, 3, none⟩ 6 6 (ps.map b32) (by simp [hps]) (fun k v hk => by
      rw [Addr.add_lit]
      exact hc k v hk)
  have hsrc : Src Try.prog i.size 173 (.slice (some ⟨h, 0, none⟩) 3 3) 3 (qs.map b32) w := by
    refine Src.ofSlice w Try.underlying173 ⟨h, 0, none⟩ 3 3 (qs.map b32) (by rw [hz1]; simp [hqs]) hq.cells (fun u hu => ?_)
    obtain ⟨_, _, rfl⟩ := List.mem_map.1 hu
    rfl
  have hr := run_append_grow_src (P := Try.prog) w 173 173 ty 23 i _ Try.underlying173 hi hz0 (some ⟨g, 3, none⟩) 6 6 (ps.map b32) hold (.slice (some ⟨h, 0, none⟩) 3 3) 3 (qs.map b32) hsrc (by omega) (by omega) (growslice_fits (by omega) (by rw [hz2]; omega))
  refine ⟨_, _, hr, (Below.refl _ _).drew.alloc (Nat.le_refl _) _, ?_⟩
  have newA : ∀ (w : World) (A : Array Value) (T : TypeId), Blk (w.alloc (.cells A T)) w.heap.size T A.toList := fun w A T => by
    have := Blk.new w A.toList T
    rwa [Array.toArray_toList] at this
  have hB := newA w.drew ((ps.map b32 ++ qs.map b32).toArray ++ Builtin.zeroCells (Value.int .u32 0).cells (grownCap w (6 + 3) 6 23 - (6 + 3))) 23
  have hrd := (hB.rd 0).take 9
  rw [List.drop_zero, Array.toList_append, List.take_left' (by simp [hps, hqs])] at hrd
  rw [List.map_append]
  exact hrd
theorem wp_append9 {o : Oper} {w : World} {a : Act} {K : Act → World → Prop} {Q : Exit → Act → World → Prop} (s x : Operand) (ho : o.op = .call { callee := .builtin .append, args := #[s, x], argTypes := #[173, 173] }) {g h : Nat}
    (hs : a.eval s = .slice (some ⟨g, 3, none⟩) 6 6) (hx : a.eval x = .slice (some ⟨h, 0, none⟩) 3 3) (ps qs : List UInt32) (hps : ps.length = 6) (hqs : qs.length = 3) (hc : ∀ j v, (ps.map b32)[j]? = some v → w.cell? ⟨g, 3 + j, none⟩ = some v) (hq : Rd w (some ⟨h, 0, none⟩) (qs.map b32))
    (k : ∀ c w', GB w w' → Rd w' (some ⟨w.heap.size, 0, none⟩) ((ps ++ qs).map b32) → K (a.put o.dst (.slice (some ⟨w.heap.size, 0, none⟩) 9 c)) w') : o.wp Try.prog a w K Q := by
  obtain ⟨c, w', hr, h2, h3⟩ := run_append9 o.type ps qs hps hqs hc hq
  refine wp_run ?_ (k c w' h2 h3)
  simp only [execOp, ho, resolve, invoke, builtin, Sem.run_bind, Sem.run_pure, Result.andThen_ok, List.map_toArray, List.map_cons, List.map_nil, hs, hx, hr]
set_option maxHeartbeats 4000000 in
set_option maxRecDepth 100000 in
theorem may5_any (s : Su) (hs : s.Ok) (w : World) : Calls Try.prog 75 #[suV s] w fun e w' => e = .returned (.bool (mayS s)) ∧ GB w w' := by
  obtain ⟨hp, hme, hda, hcur⟩ := hs
  have hnl := nums_length s hp
  have HM : Hid (mayS s = (mayHead s && s.nums.all (fun n => decide (n32 n < s.me)))) := Lib.hid rfl
  have HH : Hid (mayHead s = !(decide (s.me < 16) || decide (240 < s.me) || decide (s.da < 1) || decide (480 < s.da) || decide (n64 s.tx < 1) || decide (4611686018427387904 < n64 s.tx) || decide (s.cur < 0) || decide (s.da ≤ s.cur))) := Lib.hid rfl
  go_enter Try.func75, Try.ntmps75
  go_wp2_with (first | with_reducible refine halt_box 82 ?_)
  refine L.box82 rfl (by rfl) (by rfl) ?_
  intro w1 hB1 hG1
  simp only [Act.put, List.setIfInBounds_toArray, List.set_cons_zero, List.set_cons_succ]
  obtain ⟨c0, c1, c2, c9, c10, c11, c12⟩ := su_cells hB1 hp
  have hnum := fun j (hj : j < s.nums.length) => su_num hB1 hp j hj
  have hsp : s.nums.all (fun n => decide (n32 n < s.me)) = ((s.nums.take 6).all (fun n => decide (n32 n < s.me)) && (decide (n32 s.top < s.me) && (decide (n32 s.base < s.me) && decide (n32 s.stage < s.me)))) := by
    obtain ⟨p0, p1, p2, p3, p4, p5, hq⟩ := s.cells hp
    simp [Su.nums, hq, Bool.and_assoc]
  have HSP := Lib.hid hsp
  have HNS : Hid (s.nums.take 6 ++ [s.top, s.base, s.stage] = s.nums) := Lib.hid (by
    obtain ⟨p0, p1, p2, p3, p4, p5, hq⟩ := s.cells hp
    simp [Su.nums, hq])
  clear hsp
  generalize s.nums = N at *
  generalize mayHead s = H at *
  generalize s.tx = tx at *
  generalize s.me = me at *
  generalize s.da = da at *
  generalize s.cur = cur at *
  generalize s.top = top at *
  generalize s.base = base at *
  generalize s.stage = stage at *
  clear hB1
  go_upto_region 1 with fail
  go_cut [44] (fun v wx => v = .bool (!H) ∧ w1 = wx)
  case first =>
    by_cases h1 : me < 16
    · go_wp2_with fail
      go_meet
      case rel => exact ⟨by rw [HH.out]; simp [h1], rfl⟩
    by_cases h2 : 240 < me
    · go_wp2_with fail
      go_meet
      case rel => exact ⟨by rw [HH.out]; simp [h2], rfl⟩
    by_cases h3 : da < 1
    · go_wp2_with fail
      go_meet
      case rel => exact ⟨by rw [HH.out]; simp [h3], rfl⟩
    by_cases h4 : 480 < da
    · go_wp2_with fail
      go_meet
      case rel => exact ⟨by rw [HH.out]; simp [h4], rfl⟩
    by_cases h5 : n64 tx < 1
    · go_wp2_with fail
      go_meet
      case rel => exact ⟨by rw [HH.out]; simp [h5], rfl⟩
    by_cases h6 : 4611686018427387904 < n64 tx
    · go_wp2_with fail
      go_meet
      case rel => exact ⟨by rw [HH.out]; simp [h6], rfl⟩
    by_cases h7 : cur < 0
    · go_wp2_with fail
      go_meet
      case rel => exact ⟨by rw [HH.out]; simp [h7], rfl⟩
    by_cases h8 : da ≤ cur
    · go_wp2_with fail
      go_meet
      case rel => exact ⟨by rw [HH.out]; simp [h8], rfl⟩
    · go_wp2_with fail
      go_meet
      case rel => exact ⟨by rw [HH.out]; simp [h1, h2, h3, h4, h5, h6, h7, h8], rfl⟩
  case rest =>
    obtain ⟨rfl, rfl⟩ := hcut
    cases H
    case false =>
      go_wp2_with fail
      go_ret
      exact ⟨by rw [HM.out]; rfl, hG1⟩
    have hme16 : 16 ≤ me ∧ me ≤ 240 := by
      have := HH.out
      simp at this
      omega
    have HM2 : Hid (mayS s = ((N.take 6).all (fun n => decide (n32 n < me)) && (decide (n32 top < me) && (decide (n32 base < me) && decide (n32 stage < me))))) := Lib.hid (by rw [HM.out, Bool.true_and, HSP.out])
    clear HH HSP c0 c2 c12
    go_upto_region 3 with fail
    have hgd := GB.drew w1
    have C9 : ∀ u, GB w1.drew u → u.cell? ⟨w.heap.size, 9, none⟩ = some (.int .u32 (n32 top)) := fun u hu => hu.cell (hgd.cell c9)
    have C10 : ∀ u, GB w1.drew u → u.cell? ⟨w.heap.size, 10, none⟩ = some (.int .u32 (n32 base)) := fun u hu => hu.cell (hgd.cell c10)
    have C11 : ∀ u, GB w1.drew u → u.cell? ⟨w.heap.size, 11, none⟩ = some (.int .u32 (n32 stage)) := fun u hu => hu.cell (hgd.cell c11)
    have hA80 : Try.prog.arrayLen 80 = 6 := by simp [Program.arrayLen, Try.underlying80]
    refine region_gb [(0,0),(1,0),(2,0),(3,0),(4,0),(5,0),(6,0),(7,0),(11,0),(8,1),(9,1),(10,0)] [] (by kernel_rfl) ?_
    iterate 9 (refine S0w (v := ?_) (by rfl) (by rfl) (fun u hu N hN => ?_) ?_; rotate_left; (go_simp; exact hN); simp only [Act.put, List.setIfInBounds_toArray, List.set_cons_zero, List.set_cons_succ])
    refine S1 (by rfl) (by rfl) (fun K hK => ?_)
    go_wp2_with fail
    refine hK _ _ ((Below.refl _ _).alloc (Nat.le_refl _) _) ?_
    clear hK K C9 C10 C11
    have hX : Rd (w1.alloc (.cells #[.int .u32 (n32 top), .int .u32 (n32 base), .int .u32 (n32 stage)] 23)).drew (some ⟨w1.heap.size, 0, none⟩) ([top, base, stage].map b32) := (GB.drew _).rd (Rd.alloc_new w1 ([top, base, stage].map b32) 23)
    have hg2 : GB w1 (w1.alloc (.cells #[.int .u32 (n32 top), .int .u32 (n32 base), .int .u32 (n32 stage)] 23)).drew := GB.trans _ _ _ ((Below.refl _ _).alloc (Nat.le_refl _) _) (GB.drew _)
    generalize (w1.alloc (.cells #[.int .u32 (n32 top), .int .u32 (n32 base), .int .u32 (n32 stage)] 23)).drew = w2 at *
    refine S1 (by rfl) (by rfl) (fun K hK => ?_)
    refine wp_append9 (.tmp 46) (.tmp 53) rfl (by rfl) (by rfl) (N.take 6) [top, base, stage] (by simp [hnl]) rfl (fun j v hj => ?_) hX (fun c3 w3 hg3 hrd3 => hK _ _ hg3 ?_)
    · obtain ⟨hj1, rfl⟩ := List.getElem?_eq_some_iff.1 hj
      simp only [List.length_map, List.length_take] at hj1
      rw [List.getElem_map, List.getElem_take]
      exact hg2.cell (hnum j (by omega))
    clear hK K
    replace hg3 := GB.trans _ _ _ hg2 hg3
    have hNs : N.take 6 ++ [top, base, stage] = N := HNS.out
    rw [hNs] at hrd3
    clear hX hNs hnum c9 c10 c11
    iterate 1 (refine S0w (v := ?_) (by rfl) (by rfl) (fun u hu N hN => ?_) ?_; rotate_left; (go_simp; exact hN); simp only [Act.put, List.setIfInBounds_toArray, List.set_cons_zero, List.set_cons_succ])
    refine S.done ?_
    have hl9 : N.length ≤ 9 := by omega
    go_wp2_with fail
    go_loopw [56] (fun x wr => ∃ i : Nat, x = .int .i64 i ∧ i ≤ 9 ∧ Hid ((N.take i).all (fun n => decide (n32 n < me)) = true) ∧ GB w3 wr) (fun x _ => 9 - (intOf x).toNat)
    case atStart => exact ⟨0, rfl, by omega, Lib.hid (by simp), GB.refl _⟩
    case round =>
      obtain ⟨i, rfl, hi, HA, hg⟩ := hrel
      by_cases hlt : i < 9
      · obtain ⟨ad, he, hc⟩ := (hg.rd hrd3) i (by rw [List.length_map]; omega)
        cases he
        rw [Addr.add_lit, Nat.zero_add] at hc
        rw [List.getElem_map] at hc
        have d1 := hg.cell (hg3.cell c1)
        have hsu : (N.take (i + 1)).all (fun n => decide (n32 n < me)) = decide (n32 (N[i]'(by omega)) < me) := by
          rw [List.take_succ_eq_append_getElem (by omega), List.all_append, HA.out]; simp
        have hfs : decide (n32 (N[i]'(by omega)) < me) = false → N.all (fun n => decide (n32 n < me)) = false := fun h => by
          rw [List.all_eq_false]
          exact ⟨N[i]'(by omega), List.getElem_mem _, by rw [h]; simp⟩
        generalize N[i]'(by omega) = x at *
        have hc' : wr.cell? ⟨w2.heap.size, i, none⟩ = some (.int .u32 (n32 x)) := hc
        have lx := w23_i x
        have HSU := Lib.hid hsu
        have HFS := Lib.hid hfs
        clear hsu hfs hc
        by_cases hx : n32 x < me
        · have hd : decide (n32 x < me) = true := by simpa using hx
          have HS2 : Hid ((N.take (i + 1)).all (fun n => decide (n32 n < me)) = true) := Lib.hid (by rw [HSU.out]; exact hd)
          clear hd
          go_wp2_with fail
          go_roundw
          case rel => exact ⟨i + 1, by go_num, by omega, HS2, hg⟩
          case measure => simp [intOf]; omega
        · have HF2 := Lib.hid (HFS.out (by simpa using hx))
          go_wp2_with fail
          go_ret
          exact ⟨by rw [HM.out, HF2.out]; rfl, GB.trans _ _ _ hG1 (GB.trans _ _ _ hg3 hg)⟩
      · have HT : Hid (N.all (fun n => decide (n32 n < me)) = true) := Lib.hid (by have := HA.out; rwa [List.take_of_length_le (by omega)] at this)
        go_wp2_with fail
        go_ret
        exact ⟨by rw [HM.out, HT.out]; rfl, GB.trans _ _ _ hG1 (GB.trans _ _ _ hg3 hg)⟩
end Go.Proofs.Ytiihllfjlgbfcaa
