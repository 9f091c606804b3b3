/- The walk of the reference's Block of a superblock. -/
import Derived.Test.YtiihllfjlgbfcaaSMay
import Derived.Lib.SlBytesConst
namespace Go.Proofs.Ytiihllfjlgbfcaa
open Go.RowKit
section
variable {ρ : Operand → Value} {o : Oper} {w : World} {ops : Array Oper} {rest : List Oper} {a : Act} {Q : Exit → Act → World → Prop}
theorem L5.loadS {T U : TypeId} {n g off : Nat} {x : Operand} {cs l : List Value} {fs : Array Field} (ho : o.op = .load U x) (hx : a.eval x = .pointer (some ⟨g, off, none⟩)) (hU : Try.prog.underlying U = some (.struct fs)) (hs : (Try.prog.info? U).map (·.size) = some n)
    (hB : Blk w g T cs) (hl : (cs.drop off).take n = l) (hn : off + n ≤ cs.length) (hw : Region.wanted o (yielded ops a.tmps) = true)
    (h : wpList Try.prog ops Q rest (a.put o.dst (.agg l.toArray)) w) : wpList Try.prog ops Q (o :: rest) a w := by
  refine L.val hw ?_ h
  have := run_load_part (P := Try.prog) (o := off) hB hU rfl hs hn
  rw [hl] at this
  unfold execOp; rw [ho]
  simp only [hx, Sem.run_bind, this, Result.andThen_ok, Sem.run_pure]
theorem L5.storeS {T U : TypeId} {n g off : Nat} {x y : Operand} {cs vs : List Value} (ho : o.op = .store U x y) (hs : (Try.prog.info? U).map (·.size) = some n)
    (hx : a.eval x = .pointer (some ⟨g, off, none⟩)) (hy : a.eval y = .agg vs.toArray) (hB : Blk w g T cs) (hc : off + n ≤ cs.length) (hl : vs.length = n) (h1 : ∀ u ∈ vs, u.oneCell' = true) (hw : Region.wanted o (yielded ops a.tmps) = true)
    (h : ∀ w', Blk w' g T (put cs off vs) → w.grownBy w' (some g) → wpList Try.prog ops Q rest (a.put o.dst undef) w') : wpList Try.prog ops Q (o :: rest) a w := by
  have hr := run_store_part (P := Try.prog) (o := off) hB (.agg vs.toArray) vs rfl h1 hs hl (by omega)
  refine L.skip hw ?_ (h _ (hB.row _) (grown_row _ _ _))
  unfold execOp; rw [ho]
  simp only [hx, hy, Sem.run_bind, hr, Result.andThen_ok, Sem.run_pure]
theorem L5.alloc77 (ho : o.op = .alloc 77) (hw : Region.wanted o (yielded ops a.tmps) = true)
    (h : ∀ w', Blk w' w.heap.size 77 [.int .u64 0, .int .u64 0, .int .u64 0, .int .u64 0, .int .u64 0, .bool false] → GB w w' → wpList Try.prog ops Q rest (a.put o.dst (.pointer (some ⟨w.heap.size, 0, none⟩))) w') : wpList Try.prog ops Q (o :: rest) a w := by
  refine L.val (w' := w.alloc (.cells #[.int .u64 0, .int .u64 0, .int .u64 0, .int .u64 0, .int .u64 0, .bool false] 77)) (v := .pointer (some ⟨w.heap.size, 0, none⟩)) hw ?_ (h _ (Blk.new w [.int .u64 0, .int .u64 0, .int .u64 0, .int .u64 0, .int .u64 0, .bool false] 77) ((Below.refl _ _).alloc (Nat.le_refl _) _))
  unfold execOp; rw [ho]
  simp only [Instr.alloc, Sem.run_bind, run_zero zero77, Result.andThen_ok]
  rfl
end
theorem wrap_u64i (i : Int) (h0 : 0 ≤ i) (h1 : i ≤ 1000) : IntKind.u64.wrap i = n64 (u64i i) := by
  rw [n64_u64i i h0 h1]
  show i % 18446744073709551616 = _
  omega
theorem suC_len (s : Su) (hp : s.pg.length = 6) : (suC s).length = 19 := by simp [suC, hp]
theorem info5q : (Try.prog.info? 5).map (fun i => (i.zero, i.size, i.bytes)) = some (some (.int .u8 0), 1, 1) := by kernel_rfl
theorem elem5q : Elem 22 5 1 1 (.int .u8 0) := by
  obtain ⟨i, hi, hz0, hz1, hz2⟩ := info_parts info5q
  exact ⟨Try.underlying22, ⟨i, hi, hz0, hz1, hz2⟩, rfl, by decide, by decide⟩
def stC (s : Su) : List Value := [b64 s.ep, b64 s.la, b64 s.sq, b64 s.bl, b64 s.bq, .bool s.mr]
theorem suC_state (s : Su) (hp : s.pg.length = 6) : ((suC s).drop 13).take 6 = stC s := by
  obtain ⟨p0, p1, p2, p3, p4, p5, hq⟩ := s.cells hp
  unfold suC stC
  rw [hq]; rfl
theorem stC_one (s : Su) : ∀ u ∈ stC s, u.oneCell' = true := by
  intro u hu
  simp only [stC, List.mem_cons, List.not_mem_nil, or_false, b64] at hu
  rcases hu with rfl | rfl | rfl | rfl | rfl | rfl <;> rfl
theorem st_cells {w : World} {g : Nat} {T : TypeId} {s : Su} (h : Blk w g T (stC s)) :
    w.cell? ⟨g, 0, none⟩ = some (.int .u64 (n64 s.ep)) ∧ w.cell? ⟨g, 1, none⟩ = some (.int .u64 (n64 s.la)) ∧ w.cell? ⟨g, 2, none⟩ = some (.int .u64 (n64 s.sq)) ∧ w.cell? ⟨g, 3, none⟩ = some (.int .u64 (n64 s.bl)) ∧ w.cell? ⟨g, 4, none⟩ = some (.int .u64 (n64 s.bq)) ∧ w.cell? ⟨g, 5, none⟩ = some (.bool s.mr) :=
  ⟨h.cell 0, h.cell 1, h.cell 2, h.cell 3, h.cell 4, h.cell 5⟩
/-- The reference's bytes ahead of the mark. -/
def headS (s : Su) : List UInt8 := [86, 79, 73, 76] ++ flatN ((numS s).take 18)
theorem headS_parts (s : Su) (hp : s.pg.length = 6) : headS s = [86, 79, 73, 76] ++ Num.low 8 s.tx ++ Num.low 4 (u64i s.me) ++ Num.low 4 (u64i s.da) ++ flatN (s.pg.map (fun p => (p.toUInt64, 4))) ++ Num.low 4 s.top.toUInt64 ++ Num.low 4 s.base.toUInt64 ++ Num.low 4 s.stage.toUInt64 ++ Num.low 4 (u64i s.cur) ++ Num.low 8 s.ep ++ Num.low 8 s.la ++ Num.low 8 s.sq ++ Num.low 8 s.bl ++ Num.low 8 s.bq := by
  obtain ⟨p0, p1, p2, p3, p4, p5, hq⟩ := s.cells hp
  unfold headS numS
  rw [hq]
  simp [flatN]
theorem headS_body (s : Su) (hp : s.pg.length = 6) : bodyS s = headS s ++ [if s.mr then 1 else 0] := by
  obtain ⟨p0, p1, p2, p3, p4, p5, hq⟩ := s.cells hp
  unfold headS bodyS numS
  rw [hq]
  cases s.mr <;> simp [flatN] <;> decide
theorem pad_zero (l : List UInt8) (h : l.length < 252) : pad 252 (l ++ [0]) = pad 252 l := by
  unfold pad zeros
  obtain ⟨k, hk⟩ : ∃ k, 252 - l.length = k + 1 := ⟨251 - l.length, by omega⟩
  rw [List.take_append, List.take_append, List.take_append, List.take_of_length_le (l := l) (by omega), List.append_assoc]
  congr 1
  simp only [List.take_replicate, List.length_append, List.length_singleton]
  rw [hk]
  have h1 : [(0 : UInt8)].take (k + 1) = [0] := by simp
  rw [h1, show 252 - (l.length + 1) = k by omega, Nat.min_eq_left (by omega), Nat.min_eq_left (by omega), List.replicate_succ]
  rfl
theorem summed_mark (s : Su) (hp : s.pg.length = 6) : summed (if s.mr then headS s ++ [1] else headS s) = blockS s := by
  have hb := bodyS_length s hp
  rw [headS_body s hp, List.length_append] at hb
  unfold blockS
  rw [headS_body s hp]
  cases s.mr
  · unfold summed
    have := pad_zero (headS s) (by simp at hb; omega)
    simp only [Bool.false_eq_true, if_false]
    rw [this]
  · rfl
theorem Row5.mk {base e sz g n c : Nat} {w : World} {cur cs : List Value} (hB : Blk w g e cur) (hb : base ≤ g) (hn : n ≤ c) (hc : c ≤ maxLen) (hl : cur.length = c * sz) (ht : cur.take (n * sz) = cs) : w.ownsRow base e sz (.slice (some ⟨g, 0, none⟩) n c) n cs := by
  refine ⟨?_, .inr ⟨g, c, cur.toArray, rfl, hb, hB, hn, hc, by simpa using hl, by simpa using ht⟩⟩
  rw [← ht, List.length_take, hl]
  exact Nat.min_eq_left (Nat.mul_le_mul_right _ hn)
theorem low_op (x : UInt64) (s : Int) (k : Nat) (hs : s = k) (hk : k ≤ 8) (w : World) : Calls Try.prog 99 #[.int .u64 (n64 x), .int .i64 s] w fun e w' => ∃ a c Y, e = .returned (.slice a Y.length c) ∧ Hid (Y = Num.low k x) ∧ Hid (Y.length = k) ∧ Rd w' a (Y.map b8) ∧ GB w w' := by
  subst hs
  refine (low_any x k w (by omega)).mono ?_
  rintro e w' ⟨v, rfl, hO, hb⟩
  rw [Int.toNat_natCast] at hO
  obtain ⟨a, c, rfl, hr, -, -, -, -⟩ := hO.shape
  exact ⟨a, c, _, rfl, Lib.hid rfl, Lib.hid (Num.low_length k x), hr, hb⟩
theorem run_append8g {w : World} {g : Nat} (ty : TypeId) (l m : List UInt8) (xa : Option Addr) (c : Nat) (hl : l.length ≤ 1000) (hm0 : 0 < m.length) (hm : m.length ≤ 1000) (hc : Rd w (some ⟨g, 0, none⟩) (l.map b8)) (hq : Rd w xa (m.map b8)) :
    ∃ v' w', (Builtin.append_ #[22, 22] ty #[.slice (some ⟨g, 0, none⟩) l.length l.length, .slice xa m.length c]).run Try.prog w = .ok v' w' ∧ Own8 w.heap.size w' v' (l ++ m) ∧ GB w w' := by
  obtain ⟨i, hi, hz0, hz1, hz2⟩ := info_parts info5
  obtain ⟨ad, rfl, -⟩ := hq 0 (by simpa using hm0)
  have hold : (Builtin.firstCells i.size l.length (.slice (some ⟨g, 0, none⟩) l.length l.length)).run Try.prog w.drew = .ok (l.map b8).toArray w.drew := by
    rw [hz1]
    exact run_firstCells_some w.drew 1 l.length ⟨g, 0, none⟩ l.length l.length (l.map b8) (by simp) hc.cells
  have hsrc : Src Try.prog i.size 22 (.slice (some ad) m.length c) m.length (m.map b8) w :=
    Src.ofSlice w Try.underlying22 ad m.length c (m.map b8) (by rw [hz1]; simp) hq.cells (b8_oneCell m)
  have hr := run_append_grow_src (P := Try.prog) w 22 22 ty 5 i _ Try.underlying22 hi hz0 (some ⟨g, 0, none⟩) l.length l.length (l.map b8) hold (.slice (some ad) m.length c) m.length (m.map b8) hsrc (by omega) (by omega) (growslice_fits (by omega) (by rw [hz2]; omega))
  have hge := grownCap_ge w (l.length + m.length) l.length 5
  refine ⟨_, _, hr, ?_, (Below.refl _ _).drew.alloc (Nat.le_refl _) _⟩
  have newA : ∀ (w : World) (A : Array Value) (T : TypeId), Blk (w.alloc (.cells A T)) w.heap.size T A.toList := fun w A T => by
    have := Blk.new w A.toList T
    rwa [Array.toArray_toList] at this
  have hz : (Builtin.zeroCells (Value.int .u8 0).cells (grownCap w (l.length + m.length) l.length 5 - (l.length + m.length))).toList.length = grownCap w (l.length + m.length) l.length 5 - (l.length + m.length) := by
    have h : ∀ k, Builtin.zeroCells (Value.int .u8 0).cells k = madeCells #[.int .u8 0] (k * 1) := fun k => rfl
    rw [h, made1]; simp
  unfold Own8
  rw [List.length_append, List.map_append]
  refine Row5.mk (newA w.drew _ 5) (Nat.le_refl _) hge (grownCap_le_maxLen _ _ _ _ (by unfold maxLen; omega)) ?_ ?_
  · rw [Array.toList_append, List.length_append, hz]; simp; omega
  · rw [Array.toList_append, List.take_left' (by simp)]
theorem wpList_append8g {w : World} {ops : Array Oper} {rest : List Oper} {o : Oper} {a : Act} {Q : Exit → Act → World → Prop} (hgd : o.guard = none) (s x : Operand)
    (ho : o.op = .call { callee := .builtin .append, args := #[s, x], argTypes := #[22, 22] }) {g n : Nat} {l m : List UInt8} {xa : Option Addr} {c : Nat}
    (hs : a.eval s = .slice (some ⟨g, 0, none⟩) n n) (hx : a.eval x = .slice xa m.length c) (hn : n = l.length) (hl : l.length ≤ 1000) (hm0 : 0 < m.length) (hm : m.length ≤ 1000) (hc : Rd w (some ⟨g, 0, none⟩) (l.map b8)) (hq : Rd w xa (m.map b8))
    (h : ∀ v' w', Own8 w.heap.size w' v' (l ++ m) → GB w w' → wpList Try.prog ops Q rest (a.put o.dst v') w') : wpList Try.prog ops Q (o :: rest) a w :=
  wpList_plain hgd fun _ hK => by
    subst hn
    obtain ⟨v', w', hr, h2, h3⟩ := run_append8g o.type l m xa c hl hm0 hm hc hq
    refine wp_run ?_ (hK _ _ (h v' w' h2 h3))
    simp only [execOp, ho, resolve, invoke, builtin, Sem.run_bind, Sem.run_pure, Result.andThen_ok, List.map_toArray, List.map_cons, List.map_nil, hs, hx, hr]
set_option maxHeartbeats 8000000 in
set_option maxRecDepth 100000 in
theorem rblock5_any (s : Su) (hs : s.Ok) (hm : mayS s = true) (w : World) : Calls Try.prog 78 #[suV s] w fun e w' => e = .returned (arr (blockS s)) ∧ GB w w' := by
  obtain ⟨hp, -, -, -⟩ := hs
  obtain ⟨m1, m2, m3, m4, -, -, m7, m8, -⟩ := mayS_bounds hm
  have hnl := nums_length s hp
  have hfin := summed_mark s hp
  have hparts := headS_parts s hp
  have hst := suC_state s hp
  have lme := wrap_u64i s.me (by omega) (by omega)
  have lda := wrap_u64i s.da (by omega) (by omega)
  have lcu := wrap_u64i s.cur (by omega) (by omega)
  have hpg : ∀ (i : Nat) (h : i < s.pg.length), s.nums[i]'(by omega) = s.pg[i] := fun i h => by unfold Su.nums; rw [List.getElem_append_left h]
  have kc := fun (w : World) (C : Array Value) (n c : Nat) => Lib.run_convert_bytes_const (P := Try.prog) w 22 5 C n c Try.underlying22 Try.underlying5
  go_enter Try.func78, Try.ntmps78
  go_wp2_with (first | with_reducible refine halt_box 82 ?_)
  refine L.box82 rfl (by rfl) (by rfl) ?_
  intro w1 hB1 hG1
  simp only [Act.put, List.setIfInBounds_toArray, List.set_cons_zero, List.set_cons_succ]
  go_wp2_with (first | with_reducible refine halt_alloc 37 ?_)
  refine L.alloc rfl zero37 (by rfl) ?_
  intro w2 hB2 hG2
  simp only [Act.put, List.setIfInBounds_toArray, List.set_cons_zero, List.set_cons_succ]
  have hB1' := hB1.gb hG2
  have HC := Lib.hid (fun u (h : Below w2.heap.size w2 u) => su_cells (hB1'.of_below h hB1'.lt) hp)
  have HN := Lib.hid (fun u (h : Below w2.heap.size w2 u) (j : Nat) (hj : j < s.nums.length) => su_num (hB1'.of_below h hB1'.lt) hp j hj)
  have HBX := Lib.hid hB1'
  have hgw2 : GB w w2 := GB.trans _ _ _ hG1 hG2
  have hlt1 := hB1'.lt
  have HFIN := Lib.hid hfin
  have HPARTS := Lib.hid hparts
  have HST := Lib.hid hst
  have hw12 : w1.heap.size < w2.heap.size := hB2.lt
  obtain ⟨c0, -, -, -, -, -, -⟩ := HC.out w2 (Below.refl _ _)
  clear hB1 hB1' hfin hparts hst
  have hX0 : Rd (w2.alloc (.cells #[.int .u8 86, .int .u8 79, .int .u8 73, .int .u8 76] 5 (4, 5))) (some ⟨w2.heap.size, 0, none⟩) (([86, 79, 73, 76] : List UInt8).map b8) := Rd.alloc_mark w2 (([86, 79, 73, 76] : List UInt8).map b8) 5 _
  have hb0 : Below w2.heap.size w2 (w2.alloc (.cells #[.int .u8 86, .int .u8 79, .int .u8 73, .int .u8 76] 5 (4, 5))) := (Below.refl _ _).alloc (Nat.le_refl _) _
  go_wp2_with fail
  generalize w2.alloc (.cells #[.int .u8 86, .int .u8 79, .int .u8 73, .int .u8 76] 5 (4, 5)) = w3 at *
  refine (low_op s.tx 8 8 rfl (by omega) _).mono ?_
  rintro e w4 ⟨aq, cq, Y, rfl, HY, HYl, hrq, hbq⟩
  have hb4 := bgb hb0 hbq hb0.size
  go_wp2_with (first | (at_builtin; refine wpList_append8g (l := [86, 79, 73, 76]) rfl (.tmp 8) (.tmp 11) rfl rfl rfl rfl (by simp) (by have := HYl.out; omega) (by have := HYl.out; omega) (hbq.rd hX0) hrq ?_))
  intro v0 u0 hO0 hg0
  obtain ⟨X0, hX⟩ : ∃ X0, X0 = [86, 79, 73, 76] ++ Y := ⟨_, rfl⟩
  replace hO0 : Own8 w2.heap.size u0 v0 X0 := by rw [hX]; exact hO0.mono hb4.size
  have HX0 : Hid (X0 = [86, 79, 73, 76] ++ Num.low 8 s.tx) := Lib.hid (by rw [hX, HY.out])
  have HL0 : Hid (X0.length = 12) := Lib.hid (by rw [hX, List.length_append, HYl.out]; rfl)
  replace hb0 := bgb hb4 hg0 hb4.size
  clear hX0 hb4 hbq hrq hg0 HY HYl hX c0
  obtain ⟨-, cc, -, -, -, -, -⟩ := HC.out _ hb0
  go_wp2_with fail
  refine (low_op (u64i s.me) 4 4 rfl (by omega) _).mono ?_
  rintro e wq ⟨aq, cq, Y, rfl, HY, HYl, hrq, hbq⟩
  replace hO0 := hO0.gb hbq
  replace hb0 := bgb hb0 hbq hb0.size
  clear hbq cc
  go_wp2_with (first | (at_builtin; refine wpList_append8 rfl (.tmp 13) (.tmp 17) rfl rfl hO0 rfl hrq (by have := HYl.out; have := HL0.out; omega) hb0.size ?_))
  intro v1 u1 hO1 hG1
  have hb1 := hb0.grown hG1 hb0.size (fun k hk => (hO0.lt k hk).1)
  obtain ⟨X1, hX⟩ : ∃ X1, X1 = X0 ++ Y := ⟨_, rfl⟩
  rw [← hX] at hO1
  have HX1 : Hid (X1 = [86, 79, 73, 76] ++ Num.low 8 s.tx ++ Num.low 4 (u64i s.me)) := Lib.hid (by rw [hX, HX0.out, HY.out])
  have HL1 : Hid (X1.length = 16) := Lib.hid (by rw [hX, List.length_append, HL0.out, HYl.out])
  clear hO0 hb0 hG1 hX HX0 HL0 HY HYl hrq
  obtain ⟨-, -, cc, -, -, -, -⟩ := HC.out _ hb1
  go_wp2_with fail
  refine (low_op (u64i s.da) 4 4 rfl (by omega) _).mono ?_
  rintro e wq ⟨aq, cq, Y, rfl, HY, HYl, hrq, hbq⟩
  replace hO1 := hO1.gb hbq
  replace hb1 := bgb hb1 hbq hb1.size
  clear hbq cc
  go_wp2_with (first | (at_builtin; refine wpList_append8 rfl (.tmp 19) (.tmp 23) rfl rfl hO1 rfl hrq (by have := HYl.out; have := HL1.out; omega) hb1.size ?_))
  intro v2 u2 hO2 hG2
  have hb2 := hb1.grown hG2 hb1.size (fun k hk => (hO1.lt k hk).1)
  obtain ⟨X2, hX⟩ : ∃ X2, X2 = X1 ++ Y := ⟨_, rfl⟩
  rw [← hX] at hO2
  have HX2 : Hid (X2 = [86, 79, 73, 76] ++ Num.low 8 s.tx ++ Num.low 4 (u64i s.me) ++ Num.low 4 (u64i s.da)) := Lib.hid (by rw [hX, HX1.out, HY.out])
  have HL2 : Hid (X2.length = 20) := Lib.hid (by rw [hX, List.length_append, HL1.out, HYl.out])
  clear hO1 hb1 hG2 hX HX1 HL1 HY HYl hrq
  have l32 := w32_64
  go_wp2_with fail
  obtain ⟨P2, hP2⟩ : ∃ P2, P2 = X2 := ⟨_, rfl⟩
  go_loopw [3, 4] (fun v x wr => ∃ i : Nat, i ≤ 6 ∧ x = .int .i64 i ∧ ∃ X, Hid (X = P2 ++ flatN ((s.pg.take i).map (fun p => (p.toUInt64, 4)))) ∧ Hid (X.length = 20 + 4 * i) ∧ Own8 w2.heap.size wr v X ∧ Below w2.heap.size w2 wr) (fun _ x _ => 6 - (intOf x).toNat)
  case atStart => exact ⟨0, by omega, rfl, X2, Lib.hid (by rw [hP2]; simp [flatN]), HL2, hO2, hb2⟩
  case round =>
    obtain ⟨i, hi, rfl, X, HX, HL, hO, hb⟩ := hrel
    by_cases hlt : i < 6
    · have cc := HN.out _ hb i (by omega)
      rw [hpg i (by omega)] at cc
      have hsu : flatN ((s.pg.take (i + 1)).map (fun p => (p.toUInt64, 4))) = flatN ((s.pg.take i).map (fun p => (p.toUInt64, 4))) ++ Num.low 4 (s.pg[i]'(by omega)).toUInt64 := by
        rw [List.take_succ_eq_append_getElem (by omega), List.map_append, flatN_append]; simp [flatN]
      generalize s.pg[i]'(by omega) = x at *
      have HS := Lib.hid hsu
      clear hsu
      go_wp2_with fail
      try rw [l32]
      refine (low_op x.toUInt64 4 4 rfl (by omega) _).mono ?_
      rintro e wq ⟨aq, cq, Y, rfl, HY, HYl, hrq, hbq⟩
      replace hO := hO.gb hbq
      replace hb := bgb hb hbq hb.size
      clear hbq cc
      go_wp2_with (first | (at_builtin; refine wpList_append8 rfl (.tmp 29) (.tmp 35) rfl rfl hO rfl hrq (by have := HYl.out; have := HL.out; omega) hb.size ?_))
      intro vn un hOn hGn
      have hbn := hb.grown hGn hb.size (fun k hk => (hO.lt k hk).1)
      go_wp2_with fail
      go_roundw
      case rel => exact ⟨i + 1, by omega, by go_num, X ++ Y, Lib.hid (by rw [HS.out, HX.out, HY.out, List.append_assoc]), Lib.hid (by rw [List.length_append, HL.out, HYl.out]; omega), hOn, hbn⟩
      case measure => simp [intOf]; omega
    · obtain rfl : i = 6 := by omega
      have HX3 : Hid (X = [86, 79, 73, 76] ++ Num.low 8 s.tx ++ Num.low 4 (u64i s.me) ++ Num.low 4 (u64i s.da) ++ flatN (s.pg.map (fun p => (p.toUInt64, 4)))) := Lib.hid (by rw [HX.out, hP2, HX2.out, List.take_of_length_le (by omega)])
      have HL3 : Hid (X.length = 44) := HL
      obtain ⟨X3, hX3⟩ : ∃ X3, X3 = X := ⟨_, rfl⟩
      have hO3 := hO
      have hb3 := hb
      rw [← hX3] at hO3 HX3 HL3
      clear hO hb HX HL hX3 hP2 HX2 HL2 hO2 hb2 HN hpg
      obtain ⟨-, -, -, cc, -, -, -⟩ := HC.out _ hb3
      go_wp2_with fail
      try rw [l32]
      refine (low_op (s.top.toUInt64) 4 4 rfl (by omega) _).mono ?_
      rintro e wq ⟨aq, cq, Y, rfl, HY, HYl, hrq, hbq⟩
      replace hO3 := hO3.gb hbq
      replace hb3 := bgb hb3 hbq hb3.size
      clear hbq cc
      go_wp2_with (first | (at_builtin; refine wpList_append8 rfl (.tmp 37) (.tmp 41) rfl rfl hO3 rfl hrq (by have := HYl.out; have := HL3.out; omega) hb3.size ?_))
      intro v4 u4 hO4 hG4
      have hb4 := hb3.grown hG4 hb3.size (fun k hk => (hO3.lt k hk).1)
      obtain ⟨X4, hX⟩ : ∃ X4, X4 = X3 ++ Y := ⟨_, rfl⟩
      rw [← hX] at hO4
      have HX4 : Hid (X4 = [86, 79, 73, 76] ++ Num.low 8 s.tx ++ Num.low 4 (u64i s.me) ++ Num.low 4 (u64i s.da) ++ flatN (s.pg.map (fun p => (p.toUInt64, 4))) ++ Num.low 4 s.top.toUInt64) := Lib.hid (by rw [hX, HX3.out, HY.out])
      have HL4 : Hid (X4.length = 48) := Lib.hid (by rw [hX, List.length_append, HL3.out, HYl.out])
      clear hO3 hb3 hG4 hX HX3 HL3 HY HYl hrq
      obtain ⟨-, -, -, -, cc, -, -⟩ := HC.out _ hb4
      go_wp2_with fail
      try rw [l32]
      refine (low_op (s.base.toUInt64) 4 4 rfl (by omega) _).mono ?_
      rintro e wq ⟨aq, cq, Y, rfl, HY, HYl, hrq, hbq⟩
      replace hO4 := hO4.gb hbq
      replace hb4 := bgb hb4 hbq hb4.size
      clear hbq cc
      go_wp2_with (first | (at_builtin; refine wpList_append8 rfl (.tmp 43) (.tmp 47) rfl rfl hO4 rfl hrq (by have := HYl.out; have := HL4.out; omega) hb4.size ?_))
      intro v5 u5 hO5 hG5
      have hb5 := hb4.grown hG5 hb4.size (fun k hk => (hO4.lt k hk).1)
      obtain ⟨X5, hX⟩ : ∃ X5, X5 = X4 ++ Y := ⟨_, rfl⟩
      rw [← hX] at hO5
      have HX5 : Hid (X5 = [86, 79, 73, 76] ++ Num.low 8 s.tx ++ Num.low 4 (u64i s.me) ++ Num.low 4 (u64i s.da) ++ flatN (s.pg.map (fun p => (p.toUInt64, 4))) ++ Num.low 4 s.top.toUInt64 ++ Num.low 4 s.base.toUInt64) := Lib.hid (by rw [hX, HX4.out, HY.out])
      have HL5 : Hid (X5.length = 52) := Lib.hid (by rw [hX, List.length_append, HL4.out, HYl.out])
      clear hO4 hb4 hG5 hX HX4 HL4 HY HYl hrq
      obtain ⟨-, -, -, -, -, cc, -⟩ := HC.out _ hb5
      go_wp2_with fail
      try rw [l32]
      refine (low_op (s.stage.toUInt64) 4 4 rfl (by omega) _).mono ?_
      rintro e wq ⟨aq, cq, Y, rfl, HY, HYl, hrq, hbq⟩
      replace hO5 := hO5.gb hbq
      replace hb5 := bgb hb5 hbq hb5.size
      clear hbq cc
      go_wp2_with (first | (at_builtin; refine wpList_append8 rfl (.tmp 49) (.tmp 53) rfl rfl hO5 rfl hrq (by have := HYl.out; have := HL5.out; omega) hb5.size ?_))
      intro v6 u6 hO6 hG6
      have hb6 := hb5.grown hG6 hb5.size (fun k hk => (hO5.lt k hk).1)
      obtain ⟨X6, hX⟩ : ∃ X6, X6 = X5 ++ Y := ⟨_, rfl⟩
      rw [← hX] at hO6
      have HX6 : Hid (X6 = [86, 79, 73, 76] ++ Num.low 8 s.tx ++ Num.low 4 (u64i s.me) ++ Num.low 4 (u64i s.da) ++ flatN (s.pg.map (fun p => (p.toUInt64, 4))) ++ Num.low 4 s.top.toUInt64 ++ Num.low 4 s.base.toUInt64 ++ Num.low 4 s.stage.toUInt64) := Lib.hid (by rw [hX, HX5.out, HY.out])
      have HL6 : Hid (X6.length = 56) := Lib.hid (by rw [hX, List.length_append, HL5.out, HYl.out])
      clear hO5 hb5 hG6 hX HX5 HL5 HY HYl hrq
      obtain ⟨-, -, -, -, -, -, cc⟩ := HC.out _ hb6
      go_wp2_with fail
      refine (low_op (u64i s.cur) 4 4 rfl (by omega) _).mono ?_
      rintro e wq ⟨aq, cq, Y, rfl, HY, HYl, hrq, hbq⟩
      replace hO6 := hO6.gb hbq
      replace hb6 := bgb hb6 hbq hb6.size
      clear hbq cc
      go_wp2_with (first | (at_builtin; refine wpList_append8 rfl (.tmp 55) (.tmp 59) rfl rfl hO6 rfl hrq (by have := HYl.out; have := HL6.out; omega) hb6.size ?_))
      intro v7 u7 hO7 hG7
      have hb7 := hb6.grown hG7 hb6.size (fun k hk => (hO6.lt k hk).1)
      obtain ⟨X7, hX⟩ : ∃ X7, X7 = X6 ++ Y := ⟨_, rfl⟩
      rw [← hX] at hO7
      have HX7 : Hid (X7 = [86, 79, 73, 76] ++ Num.low 8 s.tx ++ Num.low 4 (u64i s.me) ++ Num.low 4 (u64i s.da) ++ flatN (s.pg.map (fun p => (p.toUInt64, 4))) ++ Num.low 4 s.top.toUInt64 ++ Num.low 4 s.base.toUInt64 ++ Num.low 4 s.stage.toUInt64 ++ Num.low 4 (u64i s.cur)) := Lib.hid (by rw [hX, HX6.out, HY.out])
      have HL7 : Hid (X7.length = 60) := Lib.hid (by rw [hX, List.length_append, HL6.out, HYl.out])
      clear hO6 hb6 hG7 hX HX6 HL6 HY HYl hrq
      have hBX := HBX.out.of_below hb7 hlt1
      go_wp2_with (first | with_reducible refine halt_load 77 ?_ | with_reducible refine halt_alloc 77 ?_ | with_reducible refine halt_store 77 ?_)
      refine L5.loadS (off := 13) (l := stC s) rfl (by rfl) Try.underlying77 info77 hBX HST.out (by rw [suC_len s hp]; decide) (by rfl) ?_
      simp only [Act.put, List.setIfInBounds_toArray, List.set_cons_zero, List.set_cons_succ]
      go_wp2_with (first | with_reducible refine halt_load 77 ?_ | with_reducible refine halt_alloc 77 ?_ | with_reducible refine halt_store 77 ?_)
      refine L5.alloc77 rfl (by rfl) ?_
      intro wa hA hgA
      simp only [Act.put, List.setIfInBounds_toArray, List.set_cons_zero, List.set_cons_succ]
      go_wp2_with (first | with_reducible refine halt_load 77 ?_ | with_reducible refine halt_alloc 77 ?_ | with_reducible refine halt_store 77 ?_)
      refine L5.storeS (off := 0) (vs := stC s) rfl info77 (by rfl) (by rfl) hA (by simp) rfl (stC_one s) (by rfl) ?_
      intro wb hS hgB
      simp only [Act.put]
      rw [put_all _ _ (by rfl)] at hS
      have hs7 := hb7.size
      have f8 : Fr (fun _ => False) u7 wb := (Fr.of_gb hgA).grown hgB (fun j hj => .inr (by cases hj; omega))
      have hO8 : Own8 w2.heap.size wb v7 X7 := f8.row hO7 (fun k _ h => h)
      have hb8 : Below w2.heap.size w2 wb := hb7.trans (f8.below (B := w2.heap.size) (fun _ _ h => h.elim) hs7)
      have hd8 : v7.ownBlock ≠ some u7.heap.size := fun e => by have := (hO7.lt _ e).2; omega
      have hS8 := hS
      have HL8 := HL7
      have HX8 := HX7
      obtain ⟨X8, hX8⟩ : ∃ X8, X8 = X7 := ⟨_, rfl⟩
      obtain ⟨v8, hv8⟩ : ∃ v8, v8 = v7 := ⟨_, rfl⟩
      rw [← hX8] at hO8 HL8 HX8
      generalize u7.heap.size = gS at *
      clear hBX hA hgA hgB f8 hO7 hb7 HX7 HL7 hX8 hS hs7 hv8 v8
      obtain ⟨cc, -, -, -, -, -⟩ := st_cells hS8
      go_wp2_with fail
      refine (low_op s.ep 8 8 rfl (by omega) _).mono ?_
      rintro e wq ⟨aq, cq, Y, rfl, HY, HYl, hrq, hbq⟩
      replace hO8 := Row.gb hO8 hbq
      replace hb8 := bgb hb8 hbq hb8.size
      replace hS8 := hS8.gb hbq
      clear hbq cc
      go_wp2_with (first | (at_builtin; refine wpList_appendW elem5q rfl (.tmp 63) (.tmp 66) rfl rfl hO8 rfl (m := Y.length) (by simp) hrq (b8_oneCell _) (by have := HYl.out; have := HL8.out; omega) hb8.size ?_))
      intro v9 u9 hO9 hG9 hf9
      have hb9 := hb8.grown hG9 hb8.size (fun k hk => (hO8.lt k hk).1)
      have hS9 := hS8.grown hG9 (fun e => hd8 e.symm)
      have hd9 : v9.ownBlock ≠ some gS := fun e => by
        rcases hf9 gS e with h | h
        · exact hd8 h
        · have := hS8.lt; omega
      obtain ⟨X9, hX⟩ : ∃ X9, X9 = X8 ++ Y := ⟨_, rfl⟩
      replace hO9 : Own8 w2.heap.size u9 v9 X9 := by unfold Own8; rw [hX, List.length_append, List.map_append]; exact hO9
      have HX9 : Hid (X9 = [86, 79, 73, 76] ++ Num.low 8 s.tx ++ Num.low 4 (u64i s.me) ++ Num.low 4 (u64i s.da) ++ flatN (s.pg.map (fun p => (p.toUInt64, 4))) ++ Num.low 4 s.top.toUInt64 ++ Num.low 4 s.base.toUInt64 ++ Num.low 4 s.stage.toUInt64 ++ Num.low 4 (u64i s.cur) ++ Num.low 8 s.ep) := Lib.hid (by rw [hX, HX8.out, HY.out])
      have HL9 : Hid (X9.length = 68) := Lib.hid (by rw [hX, List.length_append, HL8.out, HYl.out])
      clear hO8 hb8 hG9 hX HX8 HL8 HY HYl hrq hS8 hd8 hf9
      obtain ⟨-, cc, -, -, -, -⟩ := st_cells hS9
      go_wp2_with fail
      refine (low_op s.la 8 8 rfl (by omega) _).mono ?_
      rintro e wq ⟨aq, cq, Y, rfl, HY, HYl, hrq, hbq⟩
      replace hO9 := Row.gb hO9 hbq
      replace hb9 := bgb hb9 hbq hb9.size
      replace hS9 := hS9.gb hbq
      clear hbq cc
      go_wp2_with (first | (at_builtin; refine wpList_appendW elem5q rfl (.tmp 68) (.tmp 71) rfl rfl hO9 rfl (m := Y.length) (by simp) hrq (b8_oneCell _) (by have := HYl.out; have := HL9.out; omega) hb9.size ?_))
      intro v10 u10 hO10 hG10 hf10
      have hb10 := hb9.grown hG10 hb9.size (fun k hk => (hO9.lt k hk).1)
      have hS10 := hS9.grown hG10 (fun e => hd9 e.symm)
      have hd10 : v10.ownBlock ≠ some gS := fun e => by
        rcases hf10 gS e with h | h
        · exact hd9 h
        · have := hS9.lt; omega
      obtain ⟨X10, hX⟩ : ∃ X10, X10 = X9 ++ Y := ⟨_, rfl⟩
      replace hO10 : Own8 w2.heap.size u10 v10 X10 := by unfold Own8; rw [hX, List.length_append, List.map_append]; exact hO10
      have HX10 : Hid (X10 = [86, 79, 73, 76] ++ Num.low 8 s.tx ++ Num.low 4 (u64i s.me) ++ Num.low 4 (u64i s.da) ++ flatN (s.pg.map (fun p => (p.toUInt64, 4))) ++ Num.low 4 s.top.toUInt64 ++ Num.low 4 s.base.toUInt64 ++ Num.low 4 s.stage.toUInt64 ++ Num.low 4 (u64i s.cur) ++ Num.low 8 s.ep ++ Num.low 8 s.la) := Lib.hid (by rw [hX, HX9.out, HY.out])
      have HL10 : Hid (X10.length = 76) := Lib.hid (by rw [hX, List.length_append, HL9.out, HYl.out])
      clear hO9 hb9 hG10 hX HX9 HL9 HY HYl hrq hS9 hd9 hf10
      obtain ⟨-, -, cc, -, -, -⟩ := st_cells hS10
      go_wp2_with fail
      refine (low_op s.sq 8 8 rfl (by omega) _).mono ?_
      rintro e wq ⟨aq, cq, Y, rfl, HY, HYl, hrq, hbq⟩
      replace hO10 := Row.gb hO10 hbq
      replace hb10 := bgb hb10 hbq hb10.size
      replace hS10 := hS10.gb hbq
      clear hbq cc
      go_wp2_with (first | (at_builtin; refine wpList_appendW elem5q rfl (.tmp 73) (.tmp 76) rfl rfl hO10 rfl (m := Y.length) (by simp) hrq (b8_oneCell _) (by have := HYl.out; have := HL10.out; omega) hb10.size ?_))
      intro v11 u11 hO11 hG11 hf11
      have hb11 := hb10.grown hG11 hb10.size (fun k hk => (hO10.lt k hk).1)
      have hS11 := hS10.grown hG11 (fun e => hd10 e.symm)
      have hd11 : v11.ownBlock ≠ some gS := fun e => by
        rcases hf11 gS e with h | h
        · exact hd10 h
        · have := hS10.lt; omega
      obtain ⟨X11, hX⟩ : ∃ X11, X11 = X10 ++ Y := ⟨_, rfl⟩
      replace hO11 : Own8 w2.heap.size u11 v11 X11 := by unfold Own8; rw [hX, List.length_append, List.map_append]; exact hO11
      have HX11 : Hid (X11 = [86, 79, 73, 76] ++ Num.low 8 s.tx ++ Num.low 4 (u64i s.me) ++ Num.low 4 (u64i s.da) ++ flatN (s.pg.map (fun p => (p.toUInt64, 4))) ++ Num.low 4 s.top.toUInt64 ++ Num.low 4 s.base.toUInt64 ++ Num.low 4 s.stage.toUInt64 ++ Num.low 4 (u64i s.cur) ++ Num.low 8 s.ep ++ Num.low 8 s.la ++ Num.low 8 s.sq) := Lib.hid (by rw [hX, HX10.out, HY.out])
      have HL11 : Hid (X11.length = 84) := Lib.hid (by rw [hX, List.length_append, HL10.out, HYl.out])
      clear hO10 hb10 hG11 hX HX10 HL10 HY HYl hrq hS10 hd10 hf11
      obtain ⟨-, -, -, cc, -, -⟩ := st_cells hS11
      go_wp2_with fail
      refine (low_op s.bl 8 8 rfl (by omega) _).mono ?_
      rintro e wq ⟨aq, cq, Y, rfl, HY, HYl, hrq, hbq⟩
      replace hO11 := Row.gb hO11 hbq
      replace hb11 := bgb hb11 hbq hb11.size
      replace hS11 := hS11.gb hbq
      clear hbq cc
      go_wp2_with (first | (at_builtin; refine wpList_appendW elem5q rfl (.tmp 78) (.tmp 81) rfl rfl hO11 rfl (m := Y.length) (by simp) hrq (b8_oneCell _) (by have := HYl.out; have := HL11.out; omega) hb11.size ?_))
      intro v12 u12 hO12 hG12 hf12
      have hb12 := hb11.grown hG12 hb11.size (fun k hk => (hO11.lt k hk).1)
      have hS12 := hS11.grown hG12 (fun e => hd11 e.symm)
      have hd12 : v12.ownBlock ≠ some gS := fun e => by
        rcases hf12 gS e with h | h
        · exact hd11 h
        · have := hS11.lt; omega
      obtain ⟨X12, hX⟩ : ∃ X12, X12 = X11 ++ Y := ⟨_, rfl⟩
      replace hO12 : Own8 w2.heap.size u12 v12 X12 := by unfold Own8; rw [hX, List.length_append, List.map_append]; exact hO12
      have HX12 : Hid (X12 = [86, 79, 73, 76] ++ Num.low 8 s.tx ++ Num.low 4 (u64i s.me) ++ Num.low 4 (u64i s.da) ++ flatN (s.pg.map (fun p => (p.toUInt64, 4))) ++ Num.low 4 s.top.toUInt64 ++ Num.low 4 s.base.toUInt64 ++ Num.low 4 s.stage.toUInt64 ++ Num.low 4 (u64i s.cur) ++ Num.low 8 s.ep ++ Num.low 8 s.la ++ Num.low 8 s.sq ++ Num.low 8 s.bl) := Lib.hid (by rw [hX, HX11.out, HY.out])
      have HL12 : Hid (X12.length = 92) := Lib.hid (by rw [hX, List.length_append, HL11.out, HYl.out])
      clear hO11 hb11 hG12 hX HX11 HL11 HY HYl hrq hS11 hd11 hf12
      obtain ⟨-, -, -, -, cc, -⟩ := st_cells hS12
      go_wp2_with fail
      refine (low_op s.bq 8 8 rfl (by omega) _).mono ?_
      rintro e wq ⟨aq, cq, Y, rfl, HY, HYl, hrq, hbq⟩
      replace hO12 := Row.gb hO12 hbq
      replace hb12 := bgb hb12 hbq hb12.size
      replace hS12 := hS12.gb hbq
      clear hbq cc
      go_wp2_with (first | (at_builtin; refine wpList_appendW elem5q rfl (.tmp 83) (.tmp 86) rfl rfl hO12 rfl (m := Y.length) (by simp) hrq (b8_oneCell _) (by have := HYl.out; have := HL12.out; omega) hb12.size ?_))
      intro v13 u13 hO13 hG13 hf13
      have hb13 := hb12.grown hG13 hb12.size (fun k hk => (hO12.lt k hk).1)
      have hS13 := hS12.grown hG13 (fun e => hd12 e.symm)
      have hd13 : v13.ownBlock ≠ some gS := fun e => by
        rcases hf13 gS e with h | h
        · exact hd12 h
        · have := hS12.lt; omega
      obtain ⟨X13, hX⟩ : ∃ X13, X13 = X12 ++ Y := ⟨_, rfl⟩
      replace hO13 : Own8 w2.heap.size u13 v13 X13 := by unfold Own8; rw [hX, List.length_append, List.map_append]; exact hO13
      have HX13 : Hid (X13 = [86, 79, 73, 76] ++ Num.low 8 s.tx ++ Num.low 4 (u64i s.me) ++ Num.low 4 (u64i s.da) ++ flatN (s.pg.map (fun p => (p.toUInt64, 4))) ++ Num.low 4 s.top.toUInt64 ++ Num.low 4 s.base.toUInt64 ++ Num.low 4 s.stage.toUInt64 ++ Num.low 4 (u64i s.cur) ++ Num.low 8 s.ep ++ Num.low 8 s.la ++ Num.low 8 s.sq ++ Num.low 8 s.bl ++ Num.low 8 s.bq) := Lib.hid (by rw [hX, HX12.out, HY.out])
      have HL13 : Hid (X13.length = 100) := Lib.hid (by rw [hX, List.length_append, HL12.out, HYl.out])
      clear hO12 hb12 hG13 hX HX12 HL12 HY HYl hrq hS12 hd12 hf13
      obtain ⟨-, -, -, -, -, cc⟩ := st_cells hS13
      have HXH : Hid (X13 = headS s) := Lib.hid (by rw [HX13.out, HPARTS.out])
      have hB13 := hB2.of_below hb13 hB2.lt
      clear HX13 HPARTS HC HST HBX
      obtain ⟨mr, hmr⟩ : ∃ mr, s.mr = mr := ⟨_, rfl⟩
      rw [hmr] at cc
      have hf := HFIN.out
      rw [hmr] at hf
      have HF := Lib.hid hf
      clear hf hmr HFIN
      cases mr
      · obtain ⟨af, cf, rfl, hrf, -, -, -, -⟩ := hO13.shape
        have hs2 := summed_any af X13 cf
        have HF2 : Hid (summed X13 = blockS s) := Lib.hid (by rw [HXH.out, ← HF.out]; rfl)
        have HSL := Lib.hid (summed_length X13)
        go_wp2_with fail
        refine (hs2 _ (by have := HL13.out; omega) hrf).mono ?_
        rintro e wz ⟨rfl, hbz⟩
        generalize summed X13 = Z at *
        go_wp2_with (first | with_reducible refine halt_store 37 ?_)
        refine L.store rfl info37 (by rfl) (by rfl) (hB13.gb hbz) (by rw [List.length_map]; exact zeros_length 256) HSL.out (by rfl) ?_
        intro wy hBy hGy
        simp only [Act.put]
        go_wp2_with fail
        refine ret_cell1 rfl (by rfl) Try.underlying37 info37 hBy HSL.out rfl ?_
        have hbf : Below w2.heap.size w2 wz := bgb hb13 hbz hb13.size
        exact ⟨by rw [HF2.out], (GB.trans _ _ _ hG1 (Below.trans hG2 (hbf.mono hG2.size))).grown hGy (by have := (Below.trans hG2 (hbf.mono hG2.size)).size; have := hG1.size; omega) (fun k hk => by cases hk; have := hG1.size; omega)⟩
      · go_wp2_with (first | (at_builtin; refine wpList_append8 (m := [1]) rfl (.tmp 90) (.tmp 91) rfl rfl (hO13.gb ((Below.refl _ _).alloc (Nat.le_refl _) _)) rfl (Rd.alloc_new u13 [b8 1] 5) (by have := HL13.out; simp; omega) (by have := hb13.size; simp; omega) ?_))
        intro v14 u14 hO14 hG14
        have hb14 : Below w2.heap.size w2 u14 := (hb13.alloc hb13.size _).grown hG14 (by have := hb13.size; simp; omega) (fun k hk => (hO13.lt k hk).1)
        obtain ⟨X14, hX⟩ : ∃ X14, X14 = X13 ++ [1] := ⟨_, rfl⟩
        rw [← hX] at hO14
        have HF2 : Hid (summed X14 = blockS s) := Lib.hid (by rw [hX, HXH.out, ← HF.out]; rfl)
        have HL14 : Hid (X14.length = 101) := Lib.hid (by rw [hX, List.length_append, HL13.out]; rfl)
        have hB14 := hB2.of_below hb14 hB2.lt
        obtain ⟨af, cf, rfl, hrf, -, -, -, -⟩ := hO14.shape
        clear hO13 hb13 hG14 hX hB13
        have hs2 := summed_any af X14 cf
        have HSL := Lib.hid (summed_length X14)
        go_wp2_with fail
        refine (hs2 _ (by have := HL14.out; omega) hrf).mono ?_
        rintro e wz ⟨rfl, hbz⟩
        generalize summed X14 = Z at *
        go_wp2_with (first | with_reducible refine halt_store 37 ?_)
        refine L.store rfl info37 (by rfl) (by rfl) (hB14.gb hbz) (by rw [List.length_map]; exact zeros_length 256) HSL.out (by rfl) ?_
        intro wy hBy hGy
        simp only [Act.put]
        go_wp2_with fail
        refine ret_cell1 rfl (by rfl) Try.underlying37 info37 hBy HSL.out rfl ?_
        have hbf : Below w2.heap.size w2 wz := bgb hb14 hbz hb14.size
        exact ⟨by rw [HF2.out], (GB.trans _ _ _ hG1 (Below.trans hG2 (hbf.mono hG2.size))).grown hGy (by have := (Below.trans hG2 (hbf.mono hG2.size)).size; have := hG1.size; omega) (fun k hk => by cases hk; have := hG1.size; omega)⟩
end Go.Proofs.Ytiihllfjlgbfcaa
