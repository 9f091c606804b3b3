/- The walk of super.numbers. -/
import Derived.Test.YtiihllfjlgbfcaaSRef
import Derived.Great.BuildSlice
import Derived.Great.FillDense
namespace Go.Proofs.Ytiihllfjlgbfcaa
open Go.RowKit
def pr2 (p : UInt64 × UInt64) : Value := .agg #[b64 p.1, b64 p.2]
def cells2 (l : List (UInt64 × UInt64)) : List Value := l.flatMap (fun p => [b64 p.1, b64 p.2])
theorem cells2_length (l : List (UInt64 × UInt64)) : (cells2 l).length = l.length * 2 := by
  induction l with
  | nil => rfl
  | cons p l ih => simp only [cells2, List.flatMap_cons, List.length_append, List.length_cons] at *; simp at *; omega
theorem cells2_append (l m : List (UInt64 × UInt64)) : cells2 (l ++ m) = cells2 l ++ cells2 m := by simp [cells2]
theorem cells2_one (l : List (UInt64 × UInt64)) : ∀ u ∈ cells2 l, u.oneCell' = true := by
  intro u hu
  simp only [cells2, List.mem_flatMap, List.mem_cons, List.not_mem_nil, or_false] at hu
  obtain ⟨p, -, rfl | rfl⟩ := hu <;> rfl
theorem run_slice167 (l : List (UInt64 × UInt64)) (n : Nat) (ps : Array (Nat × Value)) (hn : l.length = n) (h0 : 0 < n) (h1 : n ≤ 1000) (hp : ps.toList = ((l.map pr2).zipIdx 0).map fun x => (x.2, x.1)) (w : World) :
    (Instr.buildSlice 165 n ps).run Try.prog w = .ok (.slice (some ⟨w.heap.size, 0, none⟩) n n) (w.alloc (.cells (cells2 l).toArray 167)) := by
  obtain ⟨i, hi, hz0, hz1, hz2⟩ := info_parts info167'
  refine run_buildSlice w 165 167 n _ _ i _ Try.underlying165 hi hz0 (by rw [hz1]; omega) (by rw [hz1]; omega) ?_
  rw [hz1]
  have := Great.fill_whole (s := 2) (by omega) (l.map pr2) ((Array.range (n * 2)).map ((Value.agg #[.int .u64 0, .int .u64 0]).cells[· % (Value.agg #[.int .u64 0, .int .u64 0]).cells.size]!)) (by
    intro v hv
    obtain ⟨p, -, rfl⟩ := List.mem_map.1 hv
    rfl) (by simp [hn])
  rw [hp, this, List.flatMap_map]
  rfl
section
variable {ρ : Operand → Value} {o : Oper} {w : World} {ops : Array Oper} {rest : List Oper} {a : Act} {Q : Exit → Act → World → Prop}
theorem X.build167 {x y : Operand} {u v : UInt64} (ho : o.op = .build 167 #[(0, x), (1, y)]) (hx : ρ x = .int .u64 (n64 u)) (hy : ρ y = .int .u64 (n64 v)) : (execOp ρ o).run Try.prog w = .ok (.value (pr2 (u, v))) w := by
  have := run_build167 u v w
  unfold b64 at this
  unfold execOp; rw [ho]
  simp [hx, hy, this]
  rfl
theorem L.slice167 {n : Nat} {parts : Array (Nat × Operand)} (ho : o.op = .buildSlice 165 n parts) (l : List (UInt64 × UInt64)) (hp : parts.toList.map (fun p => (p.1, a.eval p.2)) = ((l.map pr2).zipIdx 0).map fun x => (x.2, x.1)) (hn : l.length = n) (h0 : 0 < n) (h1 : n ≤ 1000) (hw : Region.wanted o (yielded ops a.tmps) = true)
    (h : ∀ w', Blk w' w.heap.size 167 (cells2 l) → GB w w' → wpList Try.prog ops Q rest (a.put o.dst (.slice (some ⟨w.heap.size, 0, none⟩) n n)) w') : wpList Try.prog ops Q (o :: rest) a w := by
  refine L.val hw ?_ (h _ (Blk.new w (cells2 l) 167) ((Below.refl _ _).alloc (Nat.le_refl _) _))
  have := run_slice167 l n (parts.map fun p => (p.1, a.eval p.2)) hn h0 h1 (by rw [Array.toList_map]; exact hp) w
  unfold execOp; rw [ho]
  simp only [Sem.run_bind, this, Result.andThen_ok, Sem.run_pure]
theorem L.load80 {T : TypeId} {g off : Nat} {x : Operand} {cs l : List Value} (ho : o.op = .load 80 x) (hx : a.eval x = .pointer (some ⟨g, off, none⟩)) (hB : Blk w g T cs) (hl : (cs.drop off).take 6 = l) (hn : off + 6 ≤ cs.length) (hw : Region.wanted o (yielded ops a.tmps) = true)
    (h : wpList Try.prog ops Q rest (a.put o.dst (.agg l.toArray)) w) : wpList Try.prog ops Q (o :: rest) a w := by
  refine L.val hw ?_ h
  have := run_load_part (P := Try.prog) (o := off) hB Try.underlying80 rfl info80 hn
  rw [hl] at this
  unfold execOp; rw [ho]
  simp only [hx, Sem.run_bind, this, Result.andThen_ok, Sem.run_pure]
end
theorem run_index80 (pg : List UInt32) (hp : pg.length = 6) (i : Nat) (hi : i < pg.length) (w : World) : (Instr.index 80 (.agg (pg.map b32).toArray) (.int .i64 i)).run Try.prog w = .ok (.int .u32 (n32 pg[i])) w := by
  obtain ⟨j, hj, s1⟩ := Option.map_eq_some_iff.1 info23''
  have hpart : (part 23 (pg.map b32).toArray (i * 1)).run Try.prog w = .ok (b32 pg[i]) w := by
    simp [part, isAgg, run_underlying Try.underlying23, hi]
  unfold Instr.index
  have h0 : 0 ≤ (i : Int) ∧ (i : Int) < ((6 : Nat) : Int) := by omega
  simp only [Sem.run_bind, asIntOf, Sem.run_pure, Result.andThen_ok, run_underlying Try.underlying80, h0, and_self, if_true, sizeOf, typeInfo, run_program, hj, s1, Int.toNat_natCast, hpart]
  rfl
theorem row_blk {base e sz n : Nat} {w : World} {v : Value} {cs : List Value} (h : w.ownsRow base e sz v n cs) (h0 : 0 < n) :
    ∃ g c cur, v = .slice (some ⟨g, 0, none⟩) n c ∧ Blk w g e cur ∧ base ≤ g ∧ n * sz ≤ cur.length ∧ cur.take (n * sz) = cs := by
  rcases h.2 with ⟨_, h1⟩ | ⟨g, cap, cur, h1, hb, hg, hnc, hcm, hs, ht⟩
  · omega
  · refine ⟨g, cap, cur.toList, h1, by unfold Blk; rw [Array.toArray_toList]; exact hg, hb, ?_, ht⟩
    rw [Array.length_toList, hs]; exact Nat.mul_le_mul_right _ hnc
def numP (s : Su) : List (UInt64 × UInt64) := (numS s).map (fun p => (p.1, UInt64.ofNat p.2))
def stepP (p : UInt32) : UInt64 × UInt64 := (p.toUInt64, 4)
theorem numP_parts (s : Su) : numP s = ([(s.tx, 8), (u64i s.me, 4), (u64i s.da, 4)] ++ s.pg.map stepP) ++ [(s.top.toUInt64, 4), (s.base.toUInt64, 4), (s.stage.toUInt64, 4), (u64i s.cur, 4), (s.ep, 8), (s.la, 8), (s.sq, 8), (s.bl, 8), (s.bq, 8), ((if s.mr then 1 else 0), 1)] := by
  unfold numP numS
  simp only [List.map_append, List.map_map, List.append_assoc]
  rfl
theorem suC_pages (s : Su) (hp : s.pg.length = 6) : ((suC s).drop 3).take 6 = s.pg.map b32 := by
  obtain ⟨p0, p1, p2, p3, p4, p5, hq⟩ := s.cells hp
  unfold suC
  rw [hq]; rfl
def GivesNums (l : List (UInt64 × UInt64)) (w : World) (e : Ending) (w' : World) : Prop := ∃ g c cur, e = .returned (.slice (some ⟨g, 0, none⟩) l.length c) ∧ Blk w' g 167 cur ∧ cur.take (l.length * 2) = cells2 l ∧ l.length * 2 ≤ cur.length ∧ w.heap.size ≤ g ∧ GB w w'
theorem suC_mark (s : Su) (hp : s.pg.length = 6) : (suC s)[18]? = some (.bool s.mr) := by
  obtain ⟨p0, p1, p2, p3, p4, p5, hq⟩ := s.cells hp
  unfold suC
  rw [hq]; rfl
set_option maxHeartbeats 8000000 in
set_option maxRecDepth 100000 in
theorem numbers_any (s : Su) (hs : s.Ok) (hm : mayS s = true) (w : World) : Calls Try.prog 118 #[suV s] w (GivesNums (numP s) w) := by
  obtain ⟨hp, -, -, -⟩ := hs
  obtain ⟨m1, m2, m3, m4, -, -, m7, m8, -⟩ := mayS_bounds hm
  have HNP := Lib.hid (numP_parts s)
  have hst := suC_state s hp
  have hpgs := suC_pages s hp
  have lme := wrap_u64i s.me (by omega) (by omega)
  have lda := wrap_u64i s.da (by omega) (by omega)
  have lcu := wrap_u64i s.cur (by omega) (by omega)
  have l32 := w32_64
  go_enter Try.func118, Try.ntmps118
  go_wp2_with (first | with_reducible refine halt_box 82 ?_)
  refine L.box82 rfl (by rfl) (by rfl) ?_
  intro w1 hB1 hG1
  simp only [Act.put, List.setIfInBounds_toArray, List.set_cons_zero, List.set_cons_succ]
  have HC := Lib.hid (fun u (h : GB w1 u) => su_cells (hB1.gb h) hp)
  have HBX := Lib.hid hB1
  have HST := Lib.hid hst
  have HPG := Lib.hid hpgs
  have hlt1 := hB1.lt
  obtain ⟨c0, c1, c2, -, -, -, -⟩ := HC.out w1 (GB.refl _)
  clear hB1 hst hpgs
  go_wp2_with (first | with_reducible refine halt_build 167 ?_ | with_reducible refine halt_buildSlice 165 ?_ | with_reducible refine halt_builtin .append ?_ | with_reducible refine halt_load 80 ?_ | with_reducible refine halt_load 77 ?_ | with_reducible refine halt_alloc 77 ?_ | with_reducible refine halt_store 77 ?_)
  refine L.val (by rfl) (X.build167 (u := s.tx) (v := 8) rfl (by rfl) (by rfl)) ?_
  simp only [Act.put, List.setIfInBounds_toArray, List.set_cons_zero, List.set_cons_succ]
  go_wp2_with (first | with_reducible refine halt_build 167 ?_ | with_reducible refine halt_buildSlice 165 ?_ | with_reducible refine halt_builtin .append ?_ | with_reducible refine halt_load 80 ?_ | with_reducible refine halt_load 77 ?_ | with_reducible refine halt_alloc 77 ?_ | with_reducible refine halt_store 77 ?_)
  refine L.val (by rfl) (X.build167 (u := u64i s.me) (v := 4) rfl (by rfl) (by rfl)) ?_
  simp only [Act.put, List.setIfInBounds_toArray, List.set_cons_zero, List.set_cons_succ]
  go_wp2_with (first | with_reducible refine halt_build 167 ?_ | with_reducible refine halt_buildSlice 165 ?_ | with_reducible refine halt_builtin .append ?_ | with_reducible refine halt_load 80 ?_ | with_reducible refine halt_load 77 ?_ | with_reducible refine halt_alloc 77 ?_ | with_reducible refine halt_store 77 ?_)
  refine L.val (by rfl) (X.build167 (u := u64i s.da) (v := 4) rfl (by rfl) (by rfl)) ?_
  simp only [Act.put, List.setIfInBounds_toArray, List.set_cons_zero, List.set_cons_succ]
  go_wp2_with (first | with_reducible refine halt_build 167 ?_ | with_reducible refine halt_buildSlice 165 ?_ | with_reducible refine halt_builtin .append ?_ | with_reducible refine halt_load 80 ?_ | with_reducible refine halt_load 77 ?_ | with_reducible refine halt_alloc 77 ?_ | with_reducible refine halt_store 77 ?_)
  refine L.slice167 rfl [(s.tx, 8), (u64i s.me, 4), (u64i s.da, 4)] (by rfl) rfl (by omega) (by omega) (by rfl) ?_
  intro w2 hB2 hG2
  simp only [Act.put, List.setIfInBounds_toArray, List.set_cons_zero, List.set_cons_succ]
  go_wp2_with (first | with_reducible refine halt_build 167 ?_ | with_reducible refine halt_buildSlice 165 ?_ | with_reducible refine halt_builtin .append ?_ | with_reducible refine halt_load 80 ?_ | with_reducible refine halt_load 77 ?_ | with_reducible refine halt_alloc 77 ?_ | with_reducible refine halt_store 77 ?_)
  refine wpList_appendV elem167 (base := w1.heap.size) (n := 0) (cs := []) (ms := cells2 [(s.tx, 8), (u64i s.me, 4), (u64i s.da, 4)]) (m := 3) rfl (.tmp 7) (.tmp 19) rfl (by rfl) (World.ownsRow_nil w2 w1.heap.size 167 2) (by rfl) rfl (by simpa using hB2.rd 0) (cells2_one _) (by omega) hG2.size ?_
  intro v3 w3 hO3 hG3
  simp only [Act.put, List.setIfInBounds_toArray, List.set_cons_zero, List.set_cons_succ]
  have hb3 : GB w1 w3 := hG2.grown hG3 hG2.size (fun j hj => by cases hj)
  obtain ⟨c0', -, -, -, -, -, -⟩ := HC.out w3 hb3
  clear c0 c1 c2 hB2 hG2 hG3 c0'
  go_wp2_with (first | with_reducible refine halt_build 167 ?_ | with_reducible refine halt_buildSlice 165 ?_ | with_reducible refine halt_builtin .append ?_ | with_reducible refine halt_load 80 ?_ | with_reducible refine halt_load 77 ?_ | with_reducible refine halt_alloc 77 ?_ | with_reducible refine halt_store 77 ?_)
  refine L.load80 (off := 3) (l := s.pg.map b32) rfl (by rfl) (HBX.out.gb hb3) HPG.out (by rw [suC_len s hp]; decide) (by rfl) ?_
  simp only [Act.put, List.setIfInBounds_toArray, List.set_cons_zero, List.set_cons_succ]
  obtain ⟨A0, hA0⟩ : ∃ A0, A0 = [(s.tx, (8 : UInt64)), (u64i s.me, 4), (u64i s.da, 4)] := ⟨_, rfl⟩
  rw [Nat.zero_add, List.nil_append, ← hA0] at hO3
  have HA0 := Lib.hid hA0
  have hA3 : A0.length = 3 := by rw [hA0]; rfl
  have HA3 := Lib.hid hA3
  clear hA0 hA3
  go_wp2_with fail
  go_loopw [2, 23] (fun v x wr => ∃ i : Nat, i ≤ 6 ∧ x = .int .i64 i ∧ wr.ownsRow w1.heap.size 167 2 v (3 + i) (cells2 (A0 ++ (s.pg.take i).map stepP)) ∧ GB w1 wr) (fun _ x _ => 6 - (intOf x).toNat)
  case atStart => exact ⟨0, by omega, rfl, by simpa using hO3, hb3⟩
  case round =>
    obtain ⟨i, hi, rfl, hO, hb⟩ := hrel
    by_cases hlt : i < 6
    · have hix := run_index80 s.pg hp i (by omega)
      have hsu : A0 ++ (s.pg.take (i + 1)).map stepP = (A0 ++ (s.pg.take i).map stepP) ++ [stepP (s.pg[i]'(by omega))] := by
        rw [List.take_succ_eq_append_getElem (by omega), List.map_append, List.append_assoc]; rfl
      generalize s.pg[i]'(by omega) = x at *
      have HS := Lib.hid hsu
      clear hsu
      go_wp2_with (first | with_reducible refine halt_build 167 ?_ | with_reducible refine halt_buildSlice 165 ?_ | with_reducible refine halt_builtin .append ?_ | with_reducible refine halt_load 80 ?_ | with_reducible refine halt_load 77 ?_ | with_reducible refine halt_alloc 77 ?_ | with_reducible refine halt_store 77 ?_)
      refine L.val (by rfl) (X.build167 (u := x.toUInt64) (v := 4) rfl (by rfl) (by rfl)) ?_
      simp only [Act.put, List.setIfInBounds_toArray, List.set_cons_zero, List.set_cons_succ]
      go_wp2_with (first | with_reducible refine halt_build 167 ?_ | with_reducible refine halt_buildSlice 165 ?_ | with_reducible refine halt_builtin .append ?_ | with_reducible refine halt_load 80 ?_ | with_reducible refine halt_load 77 ?_ | with_reducible refine halt_alloc 77 ?_ | with_reducible refine halt_store 77 ?_)
      refine L.slice167 rfl [(x.toUInt64, 4)] (by rfl) rfl (by omega) (by omega) (by rfl) ?_
      intro w4 hB4 hG4
      simp only [Act.put, List.setIfInBounds_toArray, List.set_cons_zero, List.set_cons_succ]
      go_wp2_with (first | with_reducible refine halt_build 167 ?_ | with_reducible refine halt_buildSlice 165 ?_ | with_reducible refine halt_builtin .append ?_ | with_reducible refine halt_load 80 ?_ | with_reducible refine halt_load 77 ?_ | with_reducible refine halt_alloc 77 ?_ | with_reducible refine halt_store 77 ?_)
      refine wpList_appendV elem167 (ms := cells2 [(x.toUInt64, 4)]) (m := 1) rfl (.tmp 26) (.tmp 30) rfl (by rfl) (Row.gb hO hG4) (by rfl) rfl (by simpa using hB4.rd 0) (cells2_one _) (by omega) (by have := hb.size; have := hG4.size; omega) ?_
      intro v5 w5 hO5 hG5
      simp only [Act.put, List.setIfInBounds_toArray, List.set_cons_zero, List.set_cons_succ]
      go_wp2_with fail
      go_roundw
      case rel => exact ⟨i + 1, by omega, by go_num, by rw [HS.out, cells2_append]; exact hO5, (GB.trans _ _ _ hb hG4).grown hG5 (GB.trans _ _ _ hb hG4).size (fun k hk => (hO.lt k hk).1)⟩
      case measure => simp [intOf]; omega
    · obtain rfl : i = 6 := by omega
      rw [List.take_of_length_le (by omega)] at hO
      obtain ⟨A1, hA1⟩ : ∃ A1, A1 = A0 ++ s.pg.map stepP := ⟨_, rfl⟩
      rw [← hA1] at hO
      have HA1 : Hid (A1 = [(s.tx, (8 : UInt64)), (u64i s.me, 4), (u64i s.da, 4)] ++ s.pg.map stepP) := Lib.hid (by rw [hA1, HA0.out])
      have hcm := ((HBX.out.gb hb).cell 18).trans (suC_mark s hp)
      clear hO3 hb3 hA1 HA0 HA3 HPG
      obtain ⟨mr, hmr⟩ : ∃ mr, s.mr = mr := ⟨_, rfl⟩
      have HMR := Lib.hid hmr
      rw [hmr] at hcm
      clear hmr
      cases mr
      · go_wp2_with (first | with_reducible refine halt_build 167 ?_ | with_reducible refine halt_buildSlice 165 ?_ | with_reducible refine halt_builtin .append ?_ | with_reducible refine halt_load 80 ?_ | with_reducible refine halt_load 77 ?_ | with_reducible refine halt_alloc 77 ?_ | with_reducible refine halt_store 77 ?_)
        refine L5.loadS (off := 13) (l := stC s) rfl (by rfl) Try.underlying77 info77 (HBX.out.gb hb) HST.out (by rw [suC_len s hp]; decide) (by rfl) ?_
        simp only [Act.put, List.setIfInBounds_toArray, List.set_cons_zero, List.set_cons_succ]
        go_wp2_with (first | with_reducible refine halt_build 167 ?_ | with_reducible refine halt_buildSlice 165 ?_ | with_reducible refine halt_builtin .append ?_ | with_reducible refine halt_load 80 ?_ | with_reducible refine halt_load 77 ?_ | with_reducible refine halt_alloc 77 ?_ | with_reducible refine halt_store 77 ?_)
        refine L5.alloc77 rfl (by rfl) ?_
        intro wa hA hgA
        simp only [Act.put, List.setIfInBounds_toArray, List.set_cons_zero, List.set_cons_succ]
        go_wp2_with (first | with_reducible refine halt_build 167 ?_ | with_reducible refine halt_buildSlice 165 ?_ | with_reducible refine halt_builtin .append ?_ | with_reducible refine halt_load 80 ?_ | with_reducible refine halt_load 77 ?_ | with_reducible refine halt_alloc 77 ?_ | with_reducible refine halt_store 77 ?_)
        refine L5.storeS (off := 0) (vs := stC s) rfl info77 (by rfl) (by rfl) hA (by simp) rfl (stC_one s) (by rfl) ?_
        intro wb hS hgB
        simp only [Act.put]
        rw [put_all _ _ (by rfl)] at hS
        have hs7 := hb.size
        have f8 : Fr (fun _ => False) wr wb := (Fr.of_gb hgA).grown hgB (fun j hj => .inr (by cases hj; omega))
        have hO8 := f8.row hO (fun k _ h => h)
        have hb8 : GB w1 wb := Below.trans hb (f8.below (B := w1.heap.size) (fun _ _ h => h.elim) hs7)
        obtain ⟨-, -, -, c9, c10, c11, c12⟩ := HC.out wb hb8
        obtain ⟨d0, d1, d2, d3, d4, -⟩ := st_cells hS
        clear hA hgA hgB f8 hO hb hS hs7 hcm
        go_wp2_with (first | with_reducible refine halt_build 167 ?_ | with_reducible refine halt_buildSlice 165 ?_ | with_reducible refine halt_builtin .append ?_ | with_reducible refine halt_load 80 ?_ | with_reducible refine halt_load 77 ?_ | with_reducible refine halt_alloc 77 ?_ | with_reducible refine halt_store 77 ?_)
        refine L.val (by rfl) (X.build167 (u := s.top.toUInt64) (v := 4) rfl (by rfl) (by rfl)) ?_
        simp only [Act.put, List.setIfInBounds_toArray, List.set_cons_zero, List.set_cons_succ]
        go_wp2_with (first | with_reducible refine halt_build 167 ?_ | with_reducible refine halt_buildSlice 165 ?_ | with_reducible refine halt_builtin .append ?_ | with_reducible refine halt_load 80 ?_ | with_reducible refine halt_load 77 ?_ | with_reducible refine halt_alloc 77 ?_ | with_reducible refine halt_store 77 ?_)
        refine L.val (by rfl) (X.build167 (u := s.base.toUInt64) (v := 4) rfl (by rfl) (by rfl)) ?_
        simp only [Act.put, List.setIfInBounds_toArray, List.set_cons_zero, List.set_cons_succ]
        go_wp2_with (first | with_reducible refine halt_build 167 ?_ | with_reducible refine halt_buildSlice 165 ?_ | with_reducible refine halt_builtin .append ?_ | with_reducible refine halt_load 80 ?_ | with_reducible refine halt_load 77 ?_ | with_reducible refine halt_alloc 77 ?_ | with_reducible refine halt_store 77 ?_)
        refine L.val (by rfl) (X.build167 (u := s.stage.toUInt64) (v := 4) rfl (by rfl) (by rfl)) ?_
        simp only [Act.put, List.setIfInBounds_toArray, List.set_cons_zero, List.set_cons_succ]
        go_wp2_with (first | with_reducible refine halt_build 167 ?_ | with_reducible refine halt_buildSlice 165 ?_ | with_reducible refine halt_builtin .append ?_ | with_reducible refine halt_load 80 ?_ | with_reducible refine halt_load 77 ?_ | with_reducible refine halt_alloc 77 ?_ | with_reducible refine halt_store 77 ?_)
        refine L.val (by rfl) (X.build167 (u := u64i s.cur) (v := 4) rfl (by rfl) (by rfl)) ?_
        simp only [Act.put, List.setIfInBounds_toArray, List.set_cons_zero, List.set_cons_succ]
        go_wp2_with (first | with_reducible refine halt_build 167 ?_ | with_reducible refine halt_buildSlice 165 ?_ | with_reducible refine halt_builtin .append ?_ | with_reducible refine halt_load 80 ?_ | with_reducible refine halt_load 77 ?_ | with_reducible refine halt_alloc 77 ?_ | with_reducible refine halt_store 77 ?_)
        refine L.val (by rfl) (X.build167 (u := s.ep) (v := 8) rfl (by rfl) (by rfl)) ?_
        simp only [Act.put, List.setIfInBounds_toArray, List.set_cons_zero, List.set_cons_succ]
        go_wp2_with (first | with_reducible refine halt_build 167 ?_ | with_reducible refine halt_buildSlice 165 ?_ | with_reducible refine halt_builtin .append ?_ | with_reducible refine halt_load 80 ?_ | with_reducible refine halt_load 77 ?_ | with_reducible refine halt_alloc 77 ?_ | with_reducible refine halt_store 77 ?_)
        refine L.val (by rfl) (X.build167 (u := s.la) (v := 8) rfl (by rfl) (by rfl)) ?_
        simp only [Act.put, List.setIfInBounds_toArray, List.set_cons_zero, List.set_cons_succ]
        go_wp2_with (first | with_reducible refine halt_build 167 ?_ | with_reducible refine halt_buildSlice 165 ?_ | with_reducible refine halt_builtin .append ?_ | with_reducible refine halt_load 80 ?_ | with_reducible refine halt_load 77 ?_ | with_reducible refine halt_alloc 77 ?_ | with_reducible refine halt_store 77 ?_)
        refine L.val (by rfl) (X.build167 (u := s.sq) (v := 8) rfl (by rfl) (by rfl)) ?_
        simp only [Act.put, List.setIfInBounds_toArray, List.set_cons_zero, List.set_cons_succ]
        go_wp2_with (first | with_reducible refine halt_build 167 ?_ | with_reducible refine halt_buildSlice 165 ?_ | with_reducible refine halt_builtin .append ?_ | with_reducible refine halt_load 80 ?_ | with_reducible refine halt_load 77 ?_ | with_reducible refine halt_alloc 77 ?_ | with_reducible refine halt_store 77 ?_)
        refine L.val (by rfl) (X.build167 (u := s.bl) (v := 8) rfl (by rfl) (by rfl)) ?_
        simp only [Act.put, List.setIfInBounds_toArray, List.set_cons_zero, List.set_cons_succ]
        go_wp2_with (first | with_reducible refine halt_build 167 ?_ | with_reducible refine halt_buildSlice 165 ?_ | with_reducible refine halt_builtin .append ?_ | with_reducible refine halt_load 80 ?_ | with_reducible refine halt_load 77 ?_ | with_reducible refine halt_alloc 77 ?_ | with_reducible refine halt_store 77 ?_)
        refine L.val (by rfl) (X.build167 (u := s.bq) (v := 8) rfl (by rfl) (by rfl)) ?_
        simp only [Act.put, List.setIfInBounds_toArray, List.set_cons_zero, List.set_cons_succ]
        go_wp2_with (first | with_reducible refine halt_build 167 ?_ | with_reducible refine halt_buildSlice 165 ?_ | with_reducible refine halt_builtin .append ?_ | with_reducible refine halt_load 80 ?_ | with_reducible refine halt_load 77 ?_ | with_reducible refine halt_alloc 77 ?_ | with_reducible refine halt_store 77 ?_)
        refine L.val (by rfl) (X.build167 (u := 0) (v := 1) rfl (by rfl) (by rfl)) ?_
        simp only [Act.put, List.setIfInBounds_toArray, List.set_cons_zero, List.set_cons_succ]
        obtain ⟨A2, hA2⟩ : ∃ A2 : List (UInt64 × UInt64), A2 = [(s.top.toUInt64, 4), (s.base.toUInt64, 4), (s.stage.toUInt64, 4), (u64i s.cur, 4), (s.ep, 8), (s.la, 8), (s.sq, 8), (s.bl, 8), (s.bq, 8), (0, 1)] := ⟨_, rfl⟩
        go_wp2_with (first | with_reducible refine halt_build 167 ?_ | with_reducible refine halt_buildSlice 165 ?_ | with_reducible refine halt_builtin .append ?_ | with_reducible refine halt_load 80 ?_ | with_reducible refine halt_load 77 ?_ | with_reducible refine halt_alloc 77 ?_ | with_reducible refine halt_store 77 ?_)
        refine L.slice167 rfl [(s.top.toUInt64, 4), (s.base.toUInt64, 4), (s.stage.toUInt64, 4), (u64i s.cur, 4), (s.ep, 8), (s.la, 8), (s.sq, 8), (s.bl, 8), (s.bq, 8), (0, 1)] (by rfl) rfl (by omega) (by omega) (by rfl) ?_
        intro w4 hB4 hG4
        simp only [Act.put, List.setIfInBounds_toArray, List.set_cons_zero, List.set_cons_succ]
        rw [← hA2] at hB4
        have HA2 : Hid (numP s = A1 ++ A2) := Lib.hid (by rw [HNP.out, HA1.out, hA2, HMR.out]; rfl)
        have hL2 : (cells2 A2).length = 20 := by rw [hA2]; rfl
        have HL2 := Lib.hid hL2
        have HLN : Hid ((numP s).length = 19) := Lib.hid (by rw [numP, List.length_map]; exact numS_len s hp)
        clear hA2 hL2
        go_wp2_with (first | with_reducible refine halt_build 167 ?_ | with_reducible refine halt_buildSlice 165 ?_ | with_reducible refine halt_builtin .append ?_ | with_reducible refine halt_load 80 ?_ | with_reducible refine halt_load 77 ?_ | with_reducible refine halt_alloc 77 ?_ | with_reducible refine halt_store 77 ?_)
        refine wpList_appendV elem167 (ms := cells2 A2) (m := 10) rfl (.tmp 38) (.tmp 72) rfl (by rfl) (Row.gb hO8 hG4) (by rfl) HL2.out (by simpa using hB4.rd 0) (cells2_one _) (by omega) (by have := hb8.size; have := hG4.size; omega) ?_
        intro v5 w5 hO5 hG5
        simp only [Act.put, List.setIfInBounds_toArray, List.set_cons_zero, List.set_cons_succ]
        have hg5 : GB w1 w5 := (GB.trans _ _ _ hb8 hG4).grown hG5 (GB.trans _ _ _ hb8 hG4).size (fun k hk => (hO8.lt k hk).1)
        obtain ⟨g5, c5, cur5, rfl, hB5, hg50, hl5, ht5⟩ := row_blk hO5 (by omega)
        go_wp2_with fail
        go_ret
        exact ⟨g5, c5, cur5, by rw [HLN.out]; rfl, hB5, by rw [HLN.out, HA2.out, cells2_append]; exact ht5, by rw [HLN.out]; exact hl5, Nat.le_trans hG1.size hg50, GB.trans _ _ _ hG1 hg5⟩
      · go_wp2_with (first | with_reducible refine halt_build 167 ?_ | with_reducible refine halt_buildSlice 165 ?_ | with_reducible refine halt_builtin .append ?_ | with_reducible refine halt_load 80 ?_ | with_reducible refine halt_load 77 ?_ | with_reducible refine halt_alloc 77 ?_ | with_reducible refine halt_store 77 ?_)
        refine L5.loadS (off := 13) (l := stC s) rfl (by rfl) Try.underlying77 info77 (HBX.out.gb hb) HST.out (by rw [suC_len s hp]; decide) (by rfl) ?_
        simp only [Act.put, List.setIfInBounds_toArray, List.set_cons_zero, List.set_cons_succ]
        go_wp2_with (first | with_reducible refine halt_build 167 ?_ | with_reducible refine halt_buildSlice 165 ?_ | with_reducible refine halt_builtin .append ?_ | with_reducible refine halt_load 80 ?_ | with_reducible refine halt_load 77 ?_ | with_reducible refine halt_alloc 77 ?_ | with_reducible refine halt_store 77 ?_)
        refine L5.alloc77 rfl (by rfl) ?_
        intro wa hA hgA
        simp only [Act.put, List.setIfInBounds_toArray, List.set_cons_zero, List.set_cons_succ]
        go_wp2_with (first | with_reducible refine halt_build 167 ?_ | with_reducible refine halt_buildSlice 165 ?_ | with_reducible refine halt_builtin .append ?_ | with_reducible refine halt_load 80 ?_ | with_reducible refine halt_load 77 ?_ | with_reducible refine halt_alloc 77 ?_ | with_reducible refine halt_store 77 ?_)
        refine L5.storeS (off := 0) (vs := stC s) rfl info77 (by rfl) (by rfl) hA (by simp) rfl (stC_one s) (by rfl) ?_
        intro wb hS hgB
        simp only [Act.put]
        rw [put_all _ _ (by rfl)] at hS
        have hs7 := hb.size
        have f8 : Fr (fun _ => False) wr wb := (Fr.of_gb hgA).grown hgB (fun j hj => .inr (by cases hj; omega))
        have hO8 := f8.row hO (fun k _ h => h)
        have hb8 : GB w1 wb := Below.trans hb (f8.below (B := w1.heap.size) (fun _ _ h => h.elim) hs7)
        obtain ⟨-, -, -, c9, c10, c11, c12⟩ := HC.out wb hb8
        obtain ⟨d0, d1, d2, d3, d4, -⟩ := st_cells hS
        clear hA hgA hgB f8 hO hb hS hs7 hcm
        go_wp2_with (first | with_reducible refine halt_build 167 ?_ | with_reducible refine halt_buildSlice 165 ?_ | with_reducible refine halt_builtin .append ?_ | with_reducible refine halt_load 80 ?_ | with_reducible refine halt_load 77 ?_ | with_reducible refine halt_alloc 77 ?_ | with_reducible refine halt_store 77 ?_)
        refine L.val (by rfl) (X.build167 (u := s.top.toUInt64) (v := 4) rfl (by rfl) (by rfl)) ?_
        simp only [Act.put, List.setIfInBounds_toArray, List.set_cons_zero, List.set_cons_succ]
        go_wp2_with (first | with_reducible refine halt_build 167 ?_ | with_reducible refine halt_buildSlice 165 ?_ | with_reducible refine halt_builtin .append ?_ | with_reducible refine halt_load 80 ?_ | with_reducible refine halt_load 77 ?_ | with_reducible refine halt_alloc 77 ?_ | with_reducible refine halt_store 77 ?_)
        refine L.val (by rfl) (X.build167 (u := s.base.toUInt64) (v := 4) rfl (by rfl) (by rfl)) ?_
        simp only [Act.put, List.setIfInBounds_toArray, List.set_cons_zero, List.set_cons_succ]
        go_wp2_with (first | with_reducible refine halt_build 167 ?_ | with_reducible refine halt_buildSlice 165 ?_ | with_reducible refine halt_builtin .append ?_ | with_reducible refine halt_load 80 ?_ | with_reducible refine halt_load 77 ?_ | with_reducible refine halt_alloc 77 ?_ | with_reducible refine halt_store 77 ?_)
        refine L.val (by rfl) (X.build167 (u := s.stage.toUInt64) (v := 4) rfl (by rfl) (by rfl)) ?_
        simp only [Act.put, List.setIfInBounds_toArray, List.set_cons_zero, List.set_cons_succ]
        go_wp2_with (first | with_reducible refine halt_build 167 ?_ | with_reducible refine halt_buildSlice 165 ?_ | with_reducible refine halt_builtin .append ?_ | with_reducible refine halt_load 80 ?_ | with_reducible refine halt_load 77 ?_ | with_reducible refine halt_alloc 77 ?_ | with_reducible refine halt_store 77 ?_)
        refine L.val (by rfl) (X.build167 (u := u64i s.cur) (v := 4) rfl (by rfl) (by rfl)) ?_
        simp only [Act.put, List.setIfInBounds_toArray, List.set_cons_zero, List.set_cons_succ]
        go_wp2_with (first | with_reducible refine halt_build 167 ?_ | with_reducible refine halt_buildSlice 165 ?_ | with_reducible refine halt_builtin .append ?_ | with_reducible refine halt_load 80 ?_ | with_reducible refine halt_load 77 ?_ | with_reducible refine halt_alloc 77 ?_ | with_reducible refine halt_store 77 ?_)
        refine L.val (by rfl) (X.build167 (u := s.ep) (v := 8) rfl (by rfl) (by rfl)) ?_
        simp only [Act.put, List.setIfInBounds_toArray, List.set_cons_zero, List.set_cons_succ]
        go_wp2_with (first | with_reducible refine halt_build 167 ?_ | with_reducible refine halt_buildSlice 165 ?_ | with_reducible refine halt_builtin .append ?_ | with_reducible refine halt_load 80 ?_ | with_reducible refine halt_load 77 ?_ | with_reducible refine halt_alloc 77 ?_ | with_reducible refine halt_store 77 ?_)
        refine L.val (by rfl) (X.build167 (u := s.la) (v := 8) rfl (by rfl) (by rfl)) ?_
        simp only [Act.put, List.setIfInBounds_toArray, List.set_cons_zero, List.set_cons_succ]
        go_wp2_with (first | with_reducible refine halt_build 167 ?_ | with_reducible refine halt_buildSlice 165 ?_ | with_reducible refine halt_builtin .append ?_ | with_reducible refine halt_load 80 ?_ | with_reducible refine halt_load 77 ?_ | with_reducible refine halt_alloc 77 ?_ | with_reducible refine halt_store 77 ?_)
        refine L.val (by rfl) (X.build167 (u := s.sq) (v := 8) rfl (by rfl) (by rfl)) ?_
        simp only [Act.put, List.setIfInBounds_toArray, List.set_cons_zero, List.set_cons_succ]
        go_wp2_with (first | with_reducible refine halt_build 167 ?_ | with_reducible refine halt_buildSlice 165 ?_ | with_reducible refine halt_builtin .append ?_ | with_reducible refine halt_load 80 ?_ | with_reducible refine halt_load 77 ?_ | with_reducible refine halt_alloc 77 ?_ | with_reducible refine halt_store 77 ?_)
        refine L.val (by rfl) (X.build167 (u := s.bl) (v := 8) rfl (by rfl) (by rfl)) ?_
        simp only [Act.put, List.setIfInBounds_toArray, List.set_cons_zero, List.set_cons_succ]
        go_wp2_with (first | with_reducible refine halt_build 167 ?_ | with_reducible refine halt_buildSlice 165 ?_ | with_reducible refine halt_builtin .append ?_ | with_reducible refine halt_load 80 ?_ | with_reducible refine halt_load 77 ?_ | with_reducible refine halt_alloc 77 ?_ | with_reducible refine halt_store 77 ?_)
        refine L.val (by rfl) (X.build167 (u := s.bq) (v := 8) rfl (by rfl) (by rfl)) ?_
        simp only [Act.put, List.setIfInBounds_toArray, List.set_cons_zero, List.set_cons_succ]
        go_wp2_with (first | with_reducible refine halt_build 167 ?_ | with_reducible refine halt_buildSlice 165 ?_ | with_reducible refine halt_builtin .append ?_ | with_reducible refine halt_load 80 ?_ | with_reducible refine halt_load 77 ?_ | with_reducible refine halt_alloc 77 ?_ | with_reducible refine halt_store 77 ?_)
        refine L.val (by rfl) (X.build167 (u := 1) (v := 1) rfl (by rfl) (by rfl)) ?_
        simp only [Act.put, List.setIfInBounds_toArray, List.set_cons_zero, List.set_cons_succ]
        obtain ⟨A2, hA2⟩ : ∃ A2 : List (UInt64 × UInt64), A2 = [(s.top.toUInt64, 4), (s.base.toUInt64, 4), (s.stage.toUInt64, 4), (u64i s.cur, 4), (s.ep, 8), (s.la, 8), (s.sq, 8), (s.bl, 8), (s.bq, 8), (1, 1)] := ⟨_, rfl⟩
        go_wp2_with (first | with_reducible refine halt_build 167 ?_ | with_reducible refine halt_buildSlice 165 ?_ | with_reducible refine halt_builtin .append ?_ | with_reducible refine halt_load 80 ?_ | with_reducible refine halt_load 77 ?_ | with_reducible refine halt_alloc 77 ?_ | with_reducible refine halt_store 77 ?_)
        refine L.slice167 rfl [(s.top.toUInt64, 4), (s.base.toUInt64, 4), (s.stage.toUInt64, 4), (u64i s.cur, 4), (s.ep, 8), (s.la, 8), (s.sq, 8), (s.bl, 8), (s.bq, 8), (1, 1)] (by rfl) rfl (by omega) (by omega) (by rfl) ?_
        intro w4 hB4 hG4
        simp only [Act.put, List.setIfInBounds_toArray, List.set_cons_zero, List.set_cons_succ]
        rw [← hA2] at hB4
        have HA2 : Hid (numP s = A1 ++ A2) := Lib.hid (by rw [HNP.out, HA1.out, hA2, HMR.out]; rfl)
        have hL2 : (cells2 A2).length = 20 := by rw [hA2]; rfl
        have HL2 := Lib.hid hL2
        have HLN : Hid ((numP s).length = 19) := Lib.hid (by rw [numP, List.length_map]; exact numS_len s hp)
        clear hA2 hL2
        go_wp2_with (first | with_reducible refine halt_build 167 ?_ | with_reducible refine halt_buildSlice 165 ?_ | with_reducible refine halt_builtin .append ?_ | with_reducible refine halt_load 80 ?_ | with_reducible refine halt_load 77 ?_ | with_reducible refine halt_alloc 77 ?_ | with_reducible refine halt_store 77 ?_)
        refine wpList_appendV elem167 (ms := cells2 A2) (m := 10) rfl (.tmp 38) (.tmp 72) rfl (by rfl) (Row.gb hO8 hG4) (by rfl) HL2.out (by simpa using hB4.rd 0) (cells2_one _) (by omega) (by have := hb8.size; have := hG4.size; omega) ?_
        intro v5 w5 hO5 hG5
        simp only [Act.put, List.setIfInBounds_toArray, List.set_cons_zero, List.set_cons_succ]
        have hg5 : GB w1 w5 := (GB.trans _ _ _ hb8 hG4).grown hG5 (GB.trans _ _ _ hb8 hG4).size (fun k hk => (hO8.lt k hk).1)
        obtain ⟨g5, c5, cur5, rfl, hB5, hg50, hl5, ht5⟩ := row_blk hO5 (by omega)
        go_wp2_with fail
        go_ret
        exact ⟨g5, c5, cur5, by rw [HLN.out]; rfl, hB5, by rw [HLN.out, HA2.out, cells2_append]; exact ht5, by rw [HLN.out]; exact hl5, Nat.le_trans hG1.size hg50, GB.trans _ _ _ hG1 hg5⟩
end Go.Proofs.Ytiihllfjlgbfcaa
