/- The walk of the law SuperBlocks. -/
import Derived.Test.YtiihllfjlgbfcaaSSave
namespace Go.Proofs.Ytiihllfjlgbfcaa
open Go.RowKit
theorem info37' : (Try.prog.info? 37).map (fun i => (i.zero, i.size, i.bytes)) = some (some (arr (zeros 256)), 256, 256) := by kernel_rfl
/-- The law's own disk, and a block of the law's beside it. -/
def MineH (w u : World) (p : Nat) (d : DD) (b : Nat) (T : TypeId) (cs : List Value) : Prop := ∃ F, DiskAt u p d F ∧ (∀ k, F k → w.heap.size ≤ k) ∧ GB w u ∧ ¬ F b ∧ w.heap.size ≤ b ∧ Blk u b T cs
theorem MineH.gb {w u v : World} {p b : Nat} {T : TypeId} {d : DD} {cs : List Value} (h : MineH w u p d b T cs) (g : GB u v) : MineH w v p d b T cs := by
  obtain ⟨F, h1, h2, h3, h4, h5, h6⟩ := h
  exact ⟨F, h1.gb g, h2, GB.trans _ _ _ h3 g, h4, h5, h6.gb g⟩
theorem MineH.step {w u v : World} {p b : Nat} {T : TypeId} {d' : DD} {cs : List Value} {F : Nat → Prop} (hF : ∀ k, F k → w.heap.size ≤ k) (hg : GB w u) (hb : ¬ F b) (hwb : w.heap.size ≤ b) (hB : Blk u b T cs) (hm : Moved p d' F u v) : MineH w v p d' b T cs := by
  obtain ⟨F', h1, h2, h3⟩ := hm
  have hs := Below.size hg
  have hbl := hB.lt
  refine ⟨F', h1, fun k hk => ?_, Below.trans hg (h2.below (B := w.heap.size) (fun k _ hk => hF k hk) hs), fun hf => ?_, hwb, h2.blk hB hb⟩
  · rcases h3 k hk with h | h
    · exact hF k h
    · omega
  · rcases h3 b hf with h | h
    · exact hb h
    · omega
theorem MineH.store {w u v : World} {p b : Nat} {T : TypeId} {d : DD} {cs ds : List Value} (h : MineH w u p d b T cs) (hB : Blk v b T ds) (hG : u.grownBy v (some b)) : MineH w v p d b T ds := by
  obtain ⟨F, h1, h2, h3, h4, h5, -⟩ := h
  have f : Fr (· = b) u v := Fr.of_grown hG (fun j hj => by cases hj; rfl)
  exact ⟨F, h1.fr f (fun k hk e => h4 (e ▸ hk)), h2, h3.grown hG h3.size (fun k hk => by cases hk; exact h5), h4, h5, hB⟩
/-- What is true of the law's disk and of what the law has. -/
structure SB (n : Nat) (d : DD) (V : List (List UInt8)) (m : Nat) : Prop where
  live : Live d
  good : DGood d
  len : d.img.length = n
  jr : d.jr.length ≤ m
  ten : V.length = 10
  all : ∀ x ∈ V, (s8 x).length = 256
  same : ∀ j, j < n / 4 → V.getD j [] = d.blk j
theorem SB.new (n : Nat) (h0 : 0 < n) (h1 : n ≤ 40) : SB n (DD.new n) (List.replicate 10 (zeros 256)) 0 := by
  refine ⟨Live.new n, DD.new_good n h0 (by omega), by simp [DD.new, noughts], by simp [DD.new], by simp, fun x hx => ?_, fun j hj => ?_⟩
  · rw [List.eq_of_mem_replicate hx, s8_length, zeros_length]
  · rw [new_blk n j hj]
    have e : (List.replicate 10 (zeros 256))[j]? = some (zeros 256) := by rw [List.getElem?_replicate, if_pos (by omega)]
    show ((List.replicate 10 (zeros 256))[j]?).getD [] = _
    rw [e]; rfl
theorem SB.write {n : Nat} {d : DD} {V : List (List UInt8)} {m : Nat} (h : SB n d V m) (k : Nat) (hk : k < n / 4) (h40 : n ≤ 40) (C : List UInt8) (hC : C.length = 256) : ∃ d', d.writeB k C = (0, d') ∧ SB n d' (V.set k C) (m + 4) := by
  have hl := h.len
  have hj := h.jr
  have ht := h.ten
  obtain ⟨d', h1, h2, h3, h4, h5, h6, h7⟩ := h.live.writeB h.good k (by omega) C hC
  refine ⟨d', h1, h2, h3, by omega, by omega, by rw [List.length_set]; exact ht, fun x hx => ?_, fun j hj => ?_⟩
  · rcases List.mem_or_eq_of_mem_set hx with h' | rfl
    · exact h.all x h'
    · rw [s8_length]; exact hC
  · rw [sgetD_set, ht]
    by_cases e : k = j
    · subst e; rw [if_pos ⟨rfl, by omega⟩, h6]
    · rw [if_neg (fun x => e x.1), h7 j (fun x => e x.symm)]; exact h.same j hj
theorem wp_storeS5 {o : Oper} {w : World} {a : Act} {K : Act → World → Prop} {Q : Exit → Act → World → Prop} {U : TypeId} {T : TypeId} {g off n : Nat} {x y : Operand} {cs vs : List Value} (ho : o.op = .store U x y) (hs : (Try.prog.info? U).map (·.size) = some n) (hx : a.eval x = .pointer (some ⟨g, off, none⟩)) (v : Value) (hy : a.eval y = v) (hv : v.cells = vs.toArray) (hB : Blk w g T cs) (hc : off + n ≤ cs.length) (hl : vs.length = n) (h1 : ∀ u ∈ vs, u.oneCell' = true)
    (h : ∀ w', Blk w' g T (put cs off vs) → w.grownBy w' (some g) → K (a.put o.dst undef) w') : o.wp Try.prog a w K Q := by
  have hr := run_store_part (P := Try.prog) (o := off) hB v vs hv h1 hs hl (by omega)
  have hr2 : (execOp a.eval o).run Try.prog w = .ok .skip (w.setRow g (put cs off vs).toArray) := by
    unfold execOp; rw [ho]
    simp only [hx, hy, Sem.run_bind, hr, Result.andThen_ok, Sem.run_pure]
  exact wp_skip hr2 (h _ (hB.row _) (grown_row _ _ _))
def oneB (c : UInt8) : List UInt8 := (c :: zeros 255).set 255 c
theorem oneB_length (c : UInt8) : (oneB c).length = 256 := by unfold oneB; rw [List.length_set, List.length_cons, zeros_length]
theorem fillOne (c v : Value) (r : List Value) (hv : v.cells = #[v]) : Instr.fill (fun i => some (i * 1, 1)) (c :: r).toArray [(0, v)] = some (v :: r).toArray := by
  simp [Instr.fill, hv]
theorem run_build37_1 (c : UInt8) (w : World) : (Instr.build 37 #[(0, b8 c)]).run Try.prog w = .ok (arr (c :: zeros 255)) w := by
  obtain ⟨i, hi, h1⟩ := info5_size
  have hz : (arr (zeros 256)).cells = (b8 0 :: (zeros 255).map b8).toArray := rfl
  have hf := fillOne (b8 0) (b8 c) ((zeros 255).map b8) rfl
  simp only [Instr.build, Sem.run_bind, run_zero zero37, Result.andThen_ok, run_underlying Try.underlying37, sizeOf, typeInfo, run_program, hi, h1, Sem.run_pure, hz, hf]
  rfl
section
variable {ρ : Operand → Value} {o : Oper} {w : World}
theorem X.build37_1 {x : Operand} {c : UInt8} (ho : o.op = .build 37 #[(0, x)]) (hx : ρ x = b8 c) : (execOp ρ o).run Try.prog w = .ok (.value (arr (c :: zeros 255))) w := by
  unfold execOp; rw [ho]
  simp [hx, run_build37_1]
end
theorem secs_rep (v : List UInt8) (n : Nat) : secs (List.replicate n v) = (List.replicate n (v.map b8)).flatten := by
  unfold secs s8
  rw [List.flatMap_def, List.map_replicate]
theorem L.make37 {w : World} {ops : Array Oper} {rest : List Oper} {o : Oper} {a : Act} {Q : Exit → Act → World → Prop} (ho : o.op = .makeSlice 109 (.const (.int .i64 10)) (.const (.int .i64 10))) (hw : Region.wanted o (yielded ops a.tmps) = true)
    (h : ∀ w', Blk w' w.heap.size 37 (secs (List.replicate 10 (zeros 256))) → GB w w' → wpList Try.prog ops Q rest (a.put o.dst (.slice (some ⟨w.heap.size, 0, none⟩) 10 10)) w') : wpList Try.prog ops Q (o :: rest) a w := by
  obtain ⟨i, hi, hz0, hz1, hz2⟩ := info_parts info37'
  have hr := run_make (P := Try.prog) w 109 37 i _ Try.underlying109 hi hz0 .i64 .i64 (10 : Nat) (10 : Nat) (by omega) (Int.le_refl _) (by rw [hz2]; decide) (by omega)
  simp only [Int.toNat_natCast, hz1] at hr
  have hc : (madeCells (arr (zeros 256)).cells (10 * 256)).toList = secs (List.replicate 10 (zeros 256)) := by
    rw [arr_zeros, made_rep _ _ _ (by decide), secs_rep]
    simp only [zeros, List.map_replicate, List.flatten_replicate_replicate]
  refine L.val (v := .slice (some ⟨w.heap.size, 0, none⟩) 10 10) (w' := w.alloc (.cells (madeCells (arr (zeros 256)).cells (10 * 256)) 37)) hw ?_ (h _ ?_ ((Below.refl _ _).alloc (Nat.le_refl _) _))
  · have e : ∀ x, a.eval (.const x) = x := fun _ => rfl
    simp only [execOp, ho, e, Sem.run_bind, Sem.run_pure]
    rw [show (10 : Int) = ((10 : Nat) : Int) from rfl, hr]
    rfl
  · have := Blk.new w (madeCells (arr (zeros 256)).cells (10 * 256)).toList 37
    rw [hc] at this
    rw [← hc, Array.toArray_toList] at this
    rw [← hc]; exact this
theorem L.val37at {w : World} {ops : Array Oper} {rest : List Oper} {o : Oper} {a : Act} {Q : Exit → Act → World → Prop} {T : TypeId} {g off : Nat} {x : Operand} {cs : List Value} {l : List UInt8} (ho : o.op = .load 37 x) (hx : a.eval x = .pointer (some ⟨g, off, none⟩))
    (hB : Blk w g T cs) (hl : (cs.drop off).take 256 = l.map b8) (hn : off + 256 ≤ cs.length) (hw : Region.wanted o (yielded ops a.tmps) = true) (h : wpList Try.prog ops Q rest (a.put o.dst (arr l)) w) : wpList Try.prog ops Q (o :: rest) a w :=
  L.val hw (X.loadAt ho hx Try.underlying37 info37 hB hl hn) h
theorem secs_at (V : List (List UInt8)) (hV : ∀ x ∈ V, (s8 x).length = 256) (j : Nat) (hj : j < V.length) : ((secs V).drop (j * 256)).take 256 = (V[j]).map b8 := fm_at hV j hj
theorem secs_len (V : List (List UInt8)) (hV : ∀ x ∈ V, (s8 x).length = 256) : (secs V).length = V.length * 256 := fm_length hV
theorem secs_put (V : List (List UInt8)) (hV : ∀ x ∈ V, (s8 x).length = 256) (j : Nat) (hj : j < V.length) (C : List UInt8) (hC : C.length = 256) : put (secs V) (j * 256) (C.map b8) = secs (V.set j C) := fm_set hV j hj C (by rw [s8_length]; exact hC)
set_option maxHeartbeats 4000000 in
set_option maxRecDepth 100000 in
theorem superBlocks_walk (n : Int) (aa : Option Addr) (A : List Int) (ac : Nat) (ab : Option Addr) (Y : List UInt8) (bc : Nat) (w : World) (hra : Rd w aa (A.map fun x => Value.int .i64 x)) (hrb : Rd w ab (Y.map b8)) :
    Calls Try.prog 12 #[.int .i64 n, .slice aa A.length ac, .slice ab Y.length bc] w fun e w' => e = .returned (.bool true) ∧ GB w w' := by
  have HKN := Lib.hid (fun u => known5_any u)
  have HZ := Lib.hid (zeros_length 256)
  go_enter Try.func12, Try.ntmps12
  go_upto_region 1 with fail
  go_cut [35] (fun s wx => ∃ bb, s = .bool bb ∧ w = wx ∧ (bb = false → 1 ≤ n ∧ n ≤ 40 ∧ A.length ≤ 10 ∧ A.length ≤ Y.length))
  case first =>
    by_cases h1 : n < 1
    · go_wp2_with fail
      go_meet
      case rel => exact ⟨true, rfl, rfl, fun h => by cases h⟩
    by_cases h2 : 40 < n
    · go_wp2_with fail
      go_meet
      case rel => exact ⟨true, rfl, rfl, fun h => by cases h⟩
    by_cases h3 : (10 : Int) < A.length
    · go_wp2_with fail
      go_meet
      case rel => exact ⟨true, rfl, rfl, fun h => by cases h⟩
    by_cases h4 : (Y.length : Int) < A.length
    · go_wp2_with fail
      go_meet
      case rel => exact ⟨true, rfl, rfl, fun h => by cases h⟩
    · go_wp2_with fail
      go_meet
      case rel => exact ⟨false, rfl, rfl, fun _ => ⟨by omega, by omega, by omega, by omega⟩⟩
  case rest =>
    obtain ⟨bb, rfl, rfl, hbb⟩ := hcut
    cases bb
    case true =>
      go_wp2_with fail
      refine (HKN.out _).mono ?_
      rintro e w2 ⟨rfl, hb2⟩
      go_wp2_with fail
      go_ret
      exact ⟨rfl, hb2⟩
    obtain ⟨hn1, hn2, hA10, hAY⟩ := hbb rfl
    clear hbb
    obtain ⟨m, rfl⟩ : ∃ m : Nat, n = (m : Int) := ⟨n.toNat, by omega⟩
    have hnew := new_any m w (by omega) (by omega)
    have hsb := SB.new m (by omega) (by omega)
    have hq4 : (m : Int).tdiv 4 = ((m / 4 : Nat) : Int) := by rw [Int.tdiv_eq_ediv_of_nonneg (by omega)]; omega
    have hm4 : m / 4 ≤ 10 := by omega
    have hw4 : RowKit.wrap64 ((m / 4 : Nat) : Int) = ((m / 4 : Nat) : Int) := by unfold RowKit.wrap64; omega
    have hmm : m / 4 * 4 ≤ m := by omega
    go_wp2_with fail
    refine hnew.mono ?_
    rintro e w1 ⟨p, F, rfl, hd, hb1, hF⟩
    go_wp2_with (first | with_reducible refine halt_load 37 ?_ | with_reducible refine halt_alloc 37 ?_ | with_reducible refine halt_store 37 ?_ | with_reducible refine halt_build 37 ?_ | with_reducible refine halt_make 109 ?_)
    refine L.make37 rfl (by rfl) ?_
    intro w2 hV2 hG2
    simp only [Act.put, List.setIfInBounds_toArray, List.set_cons_zero, List.set_cons_succ]
    have hM : MineH w w2 p (DD.new m) w1.heap.size 37 (secs (List.replicate 10 (zeros 256))) :=
      ⟨F, hd.gb hG2, hF, GB.trans _ _ _ hb1 hG2, fun hf => by have := hd.lt _ hf; omega, hb1.size, hV2⟩
    clear hnew hd hb1 hF hV2 hG2
    generalize w1.heap.size = gV at *
    generalize hm4' : m / 4 = q at *
    go_wp2_with fail
    go_loopw [10] (fun x wr => ∃ (i : Nat) (d : DD) (V : List (List UInt8)), x = .int .i64 i ∧ i ≤ A.length ∧ Hid (SB m d V (4 * i)) ∧ MineH w wr p d gV 37 (secs V)) (fun x _ => A.length - (intOf x).toNat)
    case atStart => exact ⟨0, DD.new m, _, rfl, by omega, Lib.hid hsb, hM⟩
    case round =>
      obtain ⟨i, d, V, rfl, hi, HSB, hMi⟩ := hrel
      by_cases hlt : i < A.length
      · obtain ⟨Fi, hdi, hFi, hgi, hnf, hle, hVi⟩ := hMi
        obtain ⟨ada, rfl, hca0⟩ := hra i (by simpa using hlt)
        have hal : ada.block < w.heap.size := by have := World.block_lt_of_cell? _ _ hca0; rwa [Addr.block_add] at this
        have hca := hgi.cell hca0
        have hcw0 := hca0
        clear hca0
        obtain ⟨adb, rfl, hcb⟩ := (hgi.rd hrb) i (by rw [List.length_map]; omega)
        simp only [List.getElem_map] at hca hcw0
        simp only [List.getElem_map, b8] at hcb
        have hai : A[i] = A[i] := rfl
        generalize Y[i]'(by omega) = c at *
        generalize A[i] = k at *
        clear hai
        have HL1 : Hid ((c :: zeros 255).length = 256) := Lib.hid (by rw [List.length_cons, zeros_length])
        go_wp2_with (first | with_reducible refine halt_load 37 ?_ | with_reducible refine halt_alloc 37 ?_ | with_reducible refine halt_store 37 ?_ | with_reducible refine halt_build 37 ?_ | with_reducible refine halt_make 109 ?_)
        refine L.val (by rfl) (X.build37_1 (c := c) rfl (by rfl)) ?_
        simp only [Act.put, List.setIfInBounds_toArray, List.set_cons_zero, List.set_cons_succ]
        go_wp2_with (first | with_reducible refine halt_load 37 ?_ | with_reducible refine halt_alloc 37 ?_ | with_reducible refine halt_store 37 ?_ | with_reducible refine halt_build 37 ?_ | with_reducible refine halt_make 109 ?_)
        refine L.alloc rfl zero37 (by rfl) ?_
        intro w3 hA3 hG3
        simp only [Act.put, List.setIfInBounds_toArray, List.set_cons_zero, List.set_cons_succ]
        go_wp2_with (first | with_reducible refine halt_load 37 ?_ | with_reducible refine halt_alloc 37 ?_ | with_reducible refine halt_store 37 ?_ | with_reducible refine halt_build 37 ?_ | with_reducible refine halt_make 109 ?_)
        refine L.store rfl info37 (by rfl) (by rfl) hA3 (by rw [List.length_map]; exact HZ.out) HL1.out (by rfl) ?_
        intro w4 hA4 hG4
        simp only [Act.put]
        have g4 : GB wr w4 := Below.grown hG3 hG4 hG3.size (fun k hk => by cases hk; exact Nat.le_refl _)
        have hgw4 := GB.trans _ _ _ hgi g4
        obtain ⟨x0, hcell⟩ := hA4.cell8 255 (by rw [HL1.out]; decide)
        have hfz := hA4.frozen 255
        have hca4 := g4.cell hca
        have hcb4 := g4.cell hcb
        have HC5 : Hid (Blk (w4.setCell ⟨wr.heap.size, 255, none⟩ (.int .u8 (n8 c))) wr.heap.size 37 ((oneB c).map b8)) := Lib.hid (hA4.set8 255 c)
        have hg5 : GB wr (w4.setCell ⟨wr.heap.size, 255, none⟩ (.int .u8 (n8 c))) := g4.setCell (Nat.le_refl _) _
        have HCL := Lib.hid (oneB_length c)
        clear hA3 hG3 hA4 hG4 HL1
        go_upto_region 12 with fail
        generalize w4.setCell ⟨wr.heap.size, 255, none⟩ (.int .u8 (n8 c)) = w5 at *
        generalize oneB c = C at *
        have g5d := GB.trans _ _ _ hg5 (GB.drew w5)
        have hgw5 := GB.trans _ _ _ hgi g5d
        have hdi5 := hdi.gb g5d
        have hVi5 := hVi.gb g5d
        have hC5 := Blk.gb HC5.out (GB.drew w5)
        have hsm := HSB.out
        have hjr := hsm.jr
        have hwr := write5_any p d Fi k C w5.drew hdi5 hsm.good HCL.out (by omega)
        have hnC : ¬ Fi wr.heap.size := fun hf => by have := hdi.lt _ hf; omega
        have hna : ¬ Fi ada.block := fun hf => by have := hFi _ hf; omega
        have C0 : ∀ u, Fr Fi w5.drew u → u.cell? (ada.add i) = some (.int .i64 k) := fun u hu => by
          rw [← g5d.cell hca]
          exact World.cell?_of_block (hu.block _ (by rw [Addr.block_add]; have := Below.size hgw5; omega) (by rw [Addr.block_add]; exact hna))
        have hcw : w.cell? (ada.add i) = some (.int .i64 k) := hcw0
        clear hcell hfz hca4 hcb4 g4 hgw4 hg5 hcb hdi hVi g5d
        by_cases hin : 0 ≤ k ∧ k < (q : Int)
        · obtain ⟨j, rfl⟩ : ∃ j : Nat, k = (j : Int) := ⟨k.toNat, by omega⟩
          have hjq : j < q := by omega
          obtain ⟨d', hwb, hsb'⟩ := hsm.write j (by rw [hm4']; exact hjq) (by omega) C HCL.out
          rw [hwb] at hwr
          have HWR := Lib.hid hwr
          have HS' := Lib.hid hsb'
          have hten := hsm.ten
          have HALL := Lib.hid hsm.all
          clear hwr hwb hsb' hsm hin
          refine region_fr (F := Fi) [(0,0),(1,0),(2,0),(3,0),(4,0),(5,0),(6,1),(7,0)] [] (by kernel_rfl) ?_
          iterate 5 (refine S0w (v := ?_) (by rfl) (by rfl) (fun u hu N hN => ?_) ?_; rotate_left; (go_simp; exact hN); simp only [Act.put, List.setIfInBounds_toArray, List.set_cons_zero, List.set_cons_succ])
          refine S0 (by rfl) (by rfl) (fun u hu => X.load rfl (by rfl) Try.underlying37 info37 (hu.blk hC5 hnC) HCL.out) ?_
          simp only [Act.put, List.setIfInBounds_toArray, List.set_cons_zero, List.set_cons_succ]
          refine S1 (by rfl) (by rfl) (fun K hK => ?_)
          go_wp2_with fail
          refine HWR.out.mono ?_
          rintro e w6 ⟨rfl, hm6⟩
          have hf6 : Fr Fi w5.drew w6 := by obtain ⟨_, -, h2, -⟩ := hm6; exact h2
          refine hK _ _ hf6 ?_
          clear hK K C0
          have hC6 := hf6.blk hC5 hnC
          have hM6 := MineH.step hFi hgw5 hnf hle hVi5 hm6
          clear hm6 hf6
          iterate 1 (refine S0w (v := ?_) (by rfl) (by rfl) (fun u hu N hN => ?_) ?_; rotate_left; (go_simp; exact hN); simp only [Act.put, List.setIfInBounds_toArray, List.set_cons_zero, List.set_cons_succ])
          refine S.done ?_
          have hgw6 : GB w w6 := by obtain ⟨_, -, -, h3, -⟩ := hM6; exact h3
          have c6 := hgw6.cell hcw
          have hj10 : (j : Int) < 10 := by omega
          go_upto_region 19 with fail
          have hC7 := Blk.gb hC6 (GB.drew w6)
          have hM7 := hM6.gb (GB.drew w6)
          have D0 : ∀ u, GB w6.drew u → u.cell? (ada.add i) = some (.int .i64 j) := fun u hu => hu.cell ((GB.drew w6).cell c6)
          refine region_gb [(0,0),(1,0),(2,0),(3,0),(4,0),(5,0),(6,0),(7,2)] [7] (by kernel_rfl) ?_
          iterate 5 (refine S0w (v := ?_) (by rfl) (by rfl) (fun u hu N hN => ?_) ?_; rotate_left; (go_simp; exact hN); simp only [Act.put, List.setIfInBounds_toArray, List.set_cons_zero, List.set_cons_succ])
          refine S0 (by rfl) (by rfl) (fun u hu => X.load rfl (by rfl) Try.underlying37 info37 (hC7.gb hu) HCL.out) ?_
          simp only [Act.put, List.setIfInBounds_toArray, List.set_cons_zero, List.set_cons_succ]
          iterate 1 (refine S0w (v := ?_) (by rfl) (by rfl) (fun u hu N hN => ?_) ?_; rotate_left; (go_simp; exact hN); simp only [Act.put, List.setIfInBounds_toArray, List.set_cons_zero, List.set_cons_succ])
          refine S2 (by rfl) (by rfl) (fun K hK => ?_)
          have hVb : Blk w6.drew gV 37 (secs V) := by obtain ⟨_, -, -, -, -, -, h6⟩ := hM7; exact h6
          refine wp_storeS5 (off := j * 256) (vs := C.map b8) rfl info37 (by rfl) (arr C) (by rfl) (arr_cells C) hVb (by rw [secs_len V HALL.out, hten]; omega) (by rw [List.length_map]; exact HCL.out) (b8_oneCell C) (fun w8 hV8 hG8 => hK _ _ ?_)
          clear hK K
          rw [secs_put V HALL.out j (by omega) C HCL.out] at hV8
          have hM8 := hM7.store hV8 hG8
          simp only [Act.put]
          refine S.done ?_
          go_wp2_with fail
          go_roundw
          case rel => exact ⟨i + 1, d', _, by go_num, by omega, Lib.hid (by rw [Nat.mul_add]; exact HS'.out), hM8⟩
          case measure => simp [intOf]; omega
        · have hh : d.hasB k = 2 := by
            unfold DD.hasB
            rw [if_pos (by rw [hsm.len, hm4']; omega)]
          have hwb : d.writeB k C = (2, d) := by
            unfold DD.writeB
            rw [hh, if_neg (by decide)]
          have hrb : d.readB k = (zeros 256, 2) := by
            unfold DD.readB
            rw [hh, if_neg (by decide)]
          clear hh
          rw [hwb] at hwr
          have HWR := Lib.hid hwr
          have hgd := hsm.good
          clear hwr hwb hsm
          refine region_fr (F := Fi) [(0,0),(1,0),(2,0),(3,0),(4,0),(5,0),(6,1),(7,0)] [] (by kernel_rfl) ?_
          iterate 5 (refine S0w (v := ?_) (by rfl) (by rfl) (fun u hu N hN => ?_) ?_; rotate_left; (go_simp; exact hN); simp only [Act.put, List.setIfInBounds_toArray, List.set_cons_zero, List.set_cons_succ])
          refine S0 (by rfl) (by rfl) (fun u hu => X.load rfl (by rfl) Try.underlying37 info37 (hu.blk hC5 hnC) HCL.out) ?_
          simp only [Act.put, List.setIfInBounds_toArray, List.set_cons_zero, List.set_cons_succ]
          refine S1 (by rfl) (by rfl) (fun K hK => ?_)
          go_wp2_with fail
          refine HWR.out.mono ?_
          rintro e w6 ⟨rfl, hm6⟩
          have hf6 : Fr Fi w5.drew w6 := by obtain ⟨_, -, h2, -⟩ := hm6; exact h2
          refine hK _ _ hf6 ?_
          clear hK K C0
          have hC6 := hf6.blk hC5 hnC
          have hM6 := MineH.step hFi hgw5 hnf hle hVi5 hm6
          clear hm6 hf6
          iterate 1 (refine S0w (v := ?_) (by rfl) (by rfl) (fun u hu N hN => ?_) ?_; rotate_left; (go_simp; exact hN); simp only [Act.put, List.setIfInBounds_toArray, List.set_cons_zero, List.set_cons_succ])
          refine S.done ?_
          have hgw6 : GB w w6 := by obtain ⟨_, -, -, h3, -⟩ := hM6; exact h3
          have c6 := hgw6.cell hcw
          obtain ⟨F6, hd6, hF6, -, hnf6, -, hV6⟩ := hM6
          have hrd := read5_any p d F6 k w6 hd6 hgd
          rw [hrb] at hrd
          have hneg : decide (k < 0) = true ∨ (decide (k < 0) = false ∧ decide ((q : Int) ≤ k) = true) := by
            by_cases h : k < 0
            · exact .inl (by simpa using h)
            · exact .inr ⟨by simpa using h, by simp; omega⟩
          by_cases hk0 : k < 0
          all_goals
            have hqk : k < 0 ∨ (q : Int) ≤ k := by omega
            clear hneg
            go_wp2_with fail
            refine hrd.mono ?_
            rintro e w7 ⟨rfl, hb7⟩
            go_wp2_with (first | with_reducible refine halt_load 37 ?_ | with_reducible refine halt_alloc 37 ?_ | with_reducible refine halt_store 37 ?_ | with_reducible refine halt_build 37 ?_ | with_reducible refine halt_make 109 ?_)
            refine L.alloc rfl zero37 (by rfl) ?_
            intro w8 hA8 hG8
            simp only [Act.put, List.setIfInBounds_toArray, List.set_cons_zero, List.set_cons_succ]
            go_wp2_with (first | with_reducible refine halt_load 37 ?_ | with_reducible refine halt_alloc 37 ?_ | with_reducible refine halt_store 37 ?_ | with_reducible refine halt_build 37 ?_ | with_reducible refine halt_make 109 ?_)
            refine L.store rfl info37 (by rfl) (by rfl) hA8 (by rw [List.length_map]; exact HZ.out) HZ.out (by rfl) ?_
            intro w9 hA9 hG9
            simp only [Act.put]
            have g9 : GB w6 w9 := GB.trans _ _ _ hb7 (Below.grown hG8 hG9 hG8.size (fun k hk => by cases hk; exact Nat.le_refl _))
            have hM9 : MineH w w9 p d gV 37 (secs V) := ⟨F6, hd6.gb g9, hF6, GB.trans _ _ _ hgw6 g9, hnf6, hle, hV6.gb g9⟩
            go_wp2_with fail
            go_roundw
            case rel => exact ⟨i + 1, d, V, by go_num, by omega, Lib.hid ⟨HSB.out.live, HSB.out.good, HSB.out.len, by have := HSB.out.jr; omega, HSB.out.ten, HSB.out.all, HSB.out.same⟩, hM9⟩
            case measure => simp [intOf]; omega
      · have HS := HSB
        have hMi' := hMi
        clear hM hMi hsb
        go_wp2_with fail
        go_loopw [15] (fun x wr2 => ∃ j : Nat, x = .int .i64 j ∧ j ≤ q ∧ MineH w wr2 p d gV 37 (secs V)) (fun x _ => q - (intOf x).toNat)
        case atStart => exact ⟨0, rfl, by omega, hMi'⟩
        case round =>
          clear hMi'
          obtain ⟨j, rfl, hj, hMj⟩ := hrel
          by_cases hlj : j < q
          · obtain ⟨Fj, hdj, hFj, hgj, hnfj, hle, hVj⟩ := hMj
            have hsm := HS.out
            have hrd := read5_any p d Fj j wr hdj hsm.good
            rw [readB_in j (by rw [hsm.len, hm4']; exact hlj), ← hsm.same j (by rw [hm4']; exact hlj)] at hrd
            have hten := hsm.ten
            have hjV : j < V.length := by omega
            have hat := secs_at V hsm.all j hjV
            have hget : V.getD j [] = V[j] := by simp [List.getD, hjV]
            have h256 := hsm.all _ (List.getElem_mem hjV)
            rw [s8_length] at h256
            have hsl := secs_len V hsm.all
            rw [hget] at hrd
            generalize V[j] = C at *
            have HCL := Lib.hid h256
            have HSL := Lib.hid hsl
            clear h256 hsl hget hsm
            go_wp2_with fail
            refine hrd.mono ?_
            rintro e w7 ⟨rfl, hb7⟩
            go_wp2_with (first | with_reducible refine halt_load 37 ?_ | with_reducible refine halt_alloc 37 ?_ | with_reducible refine halt_store 37 ?_ | with_reducible refine halt_build 37 ?_ | with_reducible refine halt_make 109 ?_)
            refine L.alloc rfl zero37 (by rfl) ?_
            intro w8 hA8 hG8
            simp only [Act.put, List.setIfInBounds_toArray, List.set_cons_zero, List.set_cons_succ]
            go_wp2_with (first | with_reducible refine halt_load 37 ?_ | with_reducible refine halt_alloc 37 ?_ | with_reducible refine halt_store 37 ?_ | with_reducible refine halt_build 37 ?_ | with_reducible refine halt_make 109 ?_)
            refine L.store rfl info37 (by rfl) (by rfl) hA8 (by rw [List.length_map]; exact HZ.out) HCL.out (by rfl) ?_
            intro w9 hA9 hG9
            simp only [Act.put]
            have g9 : GB wr w9 := GB.trans _ _ _ hb7 (Below.grown hG8 hG9 hG8.size (fun k hk => by cases hk; exact Nat.le_refl _))
            have hM9 : MineH w w9 p d gV 37 (secs V) := ⟨Fj, hdj.gb g9, hFj, GB.trans _ _ _ hgj g9, hnfj, hle, hVj.gb g9⟩
            have hV9 := hVj.gb g9
            have hq : (!(C == C)) = false := by simp
            have hj10 : (j : Int) < 10 := by omega
            clear hrd hb7 hA8 hG8 hG9 g9 hdj hVj
            go_upto_region 24 with fail
            have hVd := Blk.gb hV9 (GB.drew w9)
            have hAd := Blk.gb hA9 (GB.drew w9)
            refine region_gb [(0,0),(1,0),(2,0),(3,0),(4,0),(5,0),(6,0),(7,0),(8,0),(9,0)] [] (by kernel_rfl) ?_
            iterate 3 (refine S0w (v := ?_) (by rfl) (by rfl) (fun u hu N hN => ?_) ?_; rotate_left; (go_simp; exact hN); simp only [Act.put, List.setIfInBounds_toArray, List.set_cons_zero, List.set_cons_succ])
            refine S0 (by rfl) (by rfl) (fun u hu => X.load rfl (by rfl) Try.underlying37 info37 (hAd.gb hu) HCL.out) ?_
            simp only [Act.put, List.setIfInBounds_toArray, List.set_cons_zero, List.set_cons_succ]
            iterate 3 (refine S0w (v := ?_) (by rfl) (by rfl) (fun u hu N hN => ?_) ?_; rotate_left; (go_simp; exact hN); simp only [Act.put, List.setIfInBounds_toArray, List.set_cons_zero, List.set_cons_succ])
            refine S0 (by rfl) (by rfl) (fun u hu => X.loadAt (off := j * 256) rfl (by rfl) Try.underlying37 info37 (hVd.gb hu) hat (by rw [HSL.out, hten]; omega)) ?_
            simp only [Act.put, List.setIfInBounds_toArray, List.set_cons_zero, List.set_cons_succ]
            refine S0 (by rfl) (by rfl) (fun u hu => X.neq rfl (by rfl) (by rfl) Try.underlying37 guard37 HCL.out HCL.out) ?_
            simp only [Act.put, List.setIfInBounds_toArray, List.set_cons_zero, List.set_cons_succ]
            rw [hq]
            iterate 1 (refine S0w (v := ?_) (by rfl) (by rfl) (fun u hu N hN => ?_) ?_; rotate_left; (go_simp; exact hN); simp only [Act.put, List.setIfInBounds_toArray, List.set_cons_zero, List.set_cons_succ])
            refine S.done ?_
            go_wp2_with fail
            go_roundw
            case rel => exact ⟨j + 1, by go_num, by omega, hM9.gb (GB.drew w9)⟩
            case measure => simp [intOf]; omega
          · have hgw : GB w wr := by obtain ⟨_, -, -, h3, -⟩ := hMj; exact h3
            go_wp2_with fail
            refine (HKN.out _).mono ?_
            rintro e w7 ⟨rfl, hb7⟩
            go_wp2_with fail
            go_ret
            exact ⟨rfl, GB.trans _ _ _ hgw hb7⟩
end Go.Proofs.Ytiihllfjlgbfcaa
